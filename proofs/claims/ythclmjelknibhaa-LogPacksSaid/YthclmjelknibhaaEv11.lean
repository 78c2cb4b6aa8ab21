/- What the operations do that make rows: literals, make, bytes of a text. -/
import Derived.Test.YthclmjelknibhaaEv10
import Derived.IntWalk
namespace Go.Proofs.Ythclmjelknibhaa.Ev
open Go Go.RowKit
set_option linter.unusedVariables false
set_option linter.unusedSimpArgs false
set_option linter.unusedSectionVars false

theorem flatten_rep {α : Type} (zero : List α) : ∀ n : Nat, ((List.replicate n zero).flatten).length = n * zero.length
  | 0 => by simp
  | n + 1 => by rw [List.replicate_succ, List.flatten_cons, List.length_append, flatten_rep zero n, Nat.add_mul]; omega
theorem flatten_rep_get {α : Type} (zero : List α) : ∀ (n i : Nat), i < n * zero.length → ((List.replicate n zero).flatten)[i]? = zero[i % zero.length]?
  | 0, i, h => by simp at h
  | n + 1, i, h => by
    rw [List.replicate_succ, List.flatten_cons]
    by_cases hi : i < zero.length
    · rw [List.getElem?_append_left hi, Nat.mod_eq_of_lt hi]
    · rw [List.getElem?_append_right (by omega), flatten_rep_get zero n _ (by rw [Nat.add_mul] at h; omega)]
      congr 1
      rw [Nat.mod_eq_sub_mod (Nat.le_of_not_lt hi)]
/-- A row of noughts. -/
theorem zero_row {zero : Array Value} {n size : Nat} (hz : zero.size = size) : ((Array.range (n * size)).map (zero[· % zero.size]!)).toList = (List.replicate n zero.toList).flatten := by
  apply List.ext_getElem?
  intro i
  by_cases hi : i < n * size
  · have h0 : 0 < size := by
      rcases Nat.eq_zero_or_pos size with h | h
      · subst h; omega
      · exact h
    rw [flatten_rep_get zero.toList n i (by simpa [hz] using hi)]
    simp only [Array.toList_map, Array.toList_range, List.getElem?_map, List.getElem?_range hi, Option.map_some, Array.length_toList, Array.getElem?_toList]
    have : i % zero.size < zero.size := Nat.mod_lt _ (by omega)
    rw [Array.getElem?_eq_getElem this, getElem!_pos zero _ this]
  · rw [List.getElem?_eq_none, List.getElem?_eq_none]
    · rw [flatten_rep]; simp [hz]; omega
    · simp; omega

theorem all_flatten {p : Value → Bool} {zero : List Value} (h : zero.all p = true) : ∀ n : Nat, ((List.replicate n zero).flatten).all p = true
  | 0 => by simp
  | n + 1 => by rw [List.replicate_succ, List.flatten_cons, List.all_append, h, all_flatten h n]; rfl

theorem newRow_run (P : Program) (w : World) (elem : TypeId) (C : Array Value) : (newRow elem C).run P w = .ok ⟨w.heap.size, 0, none⟩ (w.alloc (.cells C elem)) := by simp [newRow]
theorem lit_fact (P : Program) {t elem : TypeId} (ht : P.underlying t = some (.slice elem)) {inf : TypeInfo} {z : Value} (hi : P.info? elem = some inf) (hz : inf.zero = some z) (hs : z.cells.toList.all scalar = true) (hsz : z.cells.size = inf.size)
    {ρ : Ren} (w : World) {F : AF} {a : Act} (hF : FRel ρ F a) {n : Nat} (hn : n * inf.size ≤ 2 ^ 24) {parts : Array (Nat × Operand)} {qs : List (Nat × Nat × Operand)}
    (hq : parts.toList.mapM (fun (p : Nat × Operand) => (some (p.1 * inf.size, inf.size) : Option (Nat × Nat)).map fun q => (q.1, q.2, p.2)) = some qs) {l : List Value}
    (hl : fillL ((List.replicate n z.cells.toList).flatten) (qs.map fun (q : Nat × Nat × Operand) => (q.1, q.2.1, F.ev q.2.2)) = some l) :
    ∃ C, (Instr.buildSlice t n (parts.map fun (p : Nat × Operand) => (p.1, a.eval p.2))).run P w = .ok (.slice (some ⟨w.heap.size, 0, none⟩) n n) (w.alloc (.cells C elem)) ∧ ARel ρ l.toArray C ∧ C.size = n * inf.size := by
  let row : Array Value := if n * inf.size = 0 then #[] else (Array.range (n * inf.size)).map (z.cells[· % z.cells.size]!)
  have hrow : row.toList = (List.replicate n z.cells.toList).flatten := by
    show (if _ then _ else _ : Array Value).toList = _
    split
    · rename_i h0
      symm
      apply List.length_eq_zero_iff.mp
      rw [flatten_rep]; simpa [hsz] using h0
    · exact zero_row hsz
  have hrel : ARel ρ ((List.replicate n z.cells.toList).flatten).toArray row := by
    rw [← hrow]
    simpa using scalars_rel (ρ := ρ) (l := row.toList) (by rw [hrow]; exact all_flatten hs n)
  obtain ⟨cells', h1, h2⟩ := fill_ok hF (fun i => some (i * inf.size, inf.size)) parts.toList qs _ row l hq hrel hl
  have g2 := newRow_run P w elem cells'
  refine ⟨cells', ?_, h2, ?_⟩
  · simp only [Instr.buildSlice, Sem.run_bind, run_underlying ht, Result.andThen_ok, run_size w hi, Sem.run_ite]
    rw [if_neg (by omega)]
    have hps : (parts.map fun (p : Nat × Operand) => (p.1, a.eval p.2)).toList = parts.toList.map fun (p : Nat × Operand) => (p.1, a.eval p.2) := Array.toList_map
    by_cases h0 : n * inf.size = 0
    · have hr : row = #[] := if_pos h0
      rw [if_pos h0]
      have e : (Array.range (n * inf.size)).map ((#[] : Array Value)[· % (#[] : Array Value).size]!) = row := by rw [h0, hr]; simp
      simp only [Sem.run_bind, Sem.run_pure, Result.andThen_ok, e, hps, h1, g2]
    · have hr : row = (Array.range (n * inf.size)).map (z.cells[· % z.cells.size]!) := if_neg h0
      rw [if_neg h0]
      simp only [Sem.run_bind, Sem.run_pure, run_zero hi hz, Result.andThen_ok, ← hr, hps, h1, g2]
  · have := h2.1
    have hlen : l.length = n * inf.size := by
      have : ∀ (ps : List (Nat × Nat × Value)) (zero l : List Value), fillL zero ps = some l → l.length = zero.length := by
        intro ps
        induction ps with
        | nil => intro zero l hf; simp only [fillL, Option.some.injEq] at hf; rw [hf]
        | cons p ps ih =>
          obtain ⟨off, size, v⟩ := p
          intro zero l hf
          simp only [fillL] at hf
          split at hf
          · cases hf
          · split at hf
            · rename_i hc
              rw [ih _ _ hf]
              simp; omega
            · cases hf
      rw [this _ _ _ hl, flatten_rep]; simp [hsz]
    simp at this
    omega

theorem lit_ok (P : Program) {t elem : TypeId} (ht : P.underlying t = some (.slice elem)) {inf : TypeInfo} {z : Value} (hi : P.info? elem = some inf) (hz : inf.zero = some z) (hs : z.cells.toList.all scalar = true) (hsz : z.cells.size = inf.size)
    {W0 : Fz} {ρ : Ren} {S : AW} {w : World} (h : RelW W0 ρ S w) {F : AF} {a : Act} (hF : FRel ρ F a) {n : Nat} (hn : n * inf.size ≤ 2 ^ 24) {parts : Array (Nat × Operand)} {qs : List (Nat × Nat × Operand)}
    (hq : parts.toList.mapM (fun (p : Nat × Operand) => (some (p.1 * inf.size, inf.size) : Option (Nat × Nat)).map fun q => (q.1, q.2, p.2)) = some qs) {l : List Value}
    (hl : fillL ((List.replicate n z.cells.toList).flatten) (qs.map fun (q : Nat × Nat × Operand) => (q.1, q.2.1, F.ev q.2.2)) = some l) :
    ∃ ρ' v' w', Grow S.next (S.next + 1) ρ ρ' ∧ (Instr.buildSlice t n (parts.map fun (p : Nat × Operand) => (p.1, a.eval p.2))).run P w = .ok v' w' ∧ RelW W0 ρ' (S.new l elem inf.size) w' ∧ VRel ρ' (.slice (some ⟨S.next, 0, none⟩) n n) v' := by
  obtain ⟨C, h1, h2, h3⟩ := lit_fact P ht hi hz hs hsz w hF hn hq hl
  obtain ⟨ρ', g1, g2, g3, g4⟩ := new_ok P h l C h2 elem inf.size
  exact ⟨ρ', _, _, g1, h1, g3, slice_new g4 (Nat.le_refl _) (Nat.le_refl _) (by omega)⟩

theorem mks_fact (P : Program) {t elem : TypeId} (ht : P.underlying t = some (.slice elem)) {inf : TypeInfo} {z : Value} (hi : P.info? elem = some inf) (hz : inf.zero = some z) (hs : z.cells.toList.all scalar = true) (hsz : z.cells.size = inf.size)
    (ρ : Ren) (w : World) {k k' : IntKind} {l c : Int} (h0 : 0 ≤ l) (h1 : l ≤ c) (h2 : c ≤ 140737488355328) (h3 : c * inf.bytes ≤ 281474976710656) :
    ∃ C, (Instr.makeSlice t (.int k l) (.int k' c)).run P w = .ok (.slice (some ⟨w.heap.size, 0, none⟩) l.toNat c.toNat) (w.alloc (.cells C elem)) ∧ ARel ρ ((List.replicate c.toNat z.cells.toList).flatten).toArray C ∧ C.size = c.toNat * inf.size := by
  let row : Array Value := if c.toNat * inf.size = 0 then #[] else (Array.range (c.toNat * inf.size)).map (z.cells[· % z.cells.size]!)
  have hrow : row.toList = (List.replicate c.toNat z.cells.toList).flatten := by
    show (if _ then _ else _ : Array Value).toList = _
    split
    · rename_i h0
      symm
      apply List.length_eq_zero_iff.mp
      rw [flatten_rep]; simpa [hsz] using h0
    · exact zero_row hsz
  have hrel : ARel ρ ((List.replicate c.toNat z.cells.toList).flatten).toArray row := by
    rw [← hrow]
    simpa using scalars_rel (ρ := ρ) (l := row.toList) (by rw [hrow]; exact all_flatten hs _)
  have g2 := newRow_run P w elem row
  have hw : ∀ x : Int, 0 ≤ x → x ≤ 140737488355328 → IntKind.i64.wrap x = x := by
    intro x a b
    exact IntWalk.i64_in x (by omega)
  refine ⟨row, ?_, hrel, ?_⟩
  · simp only [Instr.makeSlice, Sem.run_bind, run_underlying ht, Result.andThen_ok, asInt, asIntOf, Sem.run_pure, run_info w hi, Sem.run_ite, hw l h0 (by omega), hw c (by omega) h2]
    rw [if_neg (by
      simp only [Bool.or_eq_true, decide_eq_true_eq, not_or]
      refine ⟨⟨⟨by omega, ?_⟩, by omega⟩, by omega⟩
      have : (inf.bytes : Int) * c = c * inf.bytes := Int.mul_comm _ _
      rw [this]; omega)]
    simp only [Result.andThen_ok, run_askRoom, run_size w hi]
    by_cases h0 : c.toNat * inf.size = 0
    · have hr : row = #[] := if_pos h0
      rw [if_pos h0]
      have e : (Array.range (c.toNat * inf.size)).map ((#[] : Array Value)[· % (#[] : Array Value).size]!) = row := by rw [h0, hr]; simp
      simp only [Sem.run_bind, Sem.run_pure, Result.andThen_ok, e, g2]
    · have hr : row = (Array.range (c.toNat * inf.size)).map (z.cells[· % z.cells.size]!) := if_neg h0
      rw [if_neg h0]
      simp only [Sem.run_bind, Sem.run_pure, run_zero hi hz, Result.andThen_ok, ← hr, g2]
  · have e2 : row.toList.length = row.size := by simp
    rw [hrow, flatten_rep] at e2
    simp [hsz] at e2
    omega

theorem mks_ok (P : Program) {t elem : TypeId} (ht : P.underlying t = some (.slice elem)) {inf : TypeInfo} {z : Value} (hi : P.info? elem = some inf) (hz : inf.zero = some z) (hs : z.cells.toList.all scalar = true) (hsz : z.cells.size = inf.size)
    {W0 : Fz} {ρ : Ren} {S : AW} {w : World} (h : RelW W0 ρ S w) {k k' : IntKind} {l c : Int} (h0 : 0 ≤ l) (h1 : l ≤ c) (h2 : c ≤ 140737488355328) (h3 : c * inf.bytes ≤ 281474976710656) :
    ∃ ρ' v' w', Grow S.next (S.next + 1) ρ ρ' ∧ (Instr.makeSlice t (.int k l) (.int k' c)).run P w = .ok v' w' ∧ RelW W0 ρ' (S.new ((List.replicate c.toNat z.cells.toList).flatten) elem inf.size) w' ∧ VRel ρ' (.slice (some ⟨S.next, 0, none⟩) l.toNat c.toNat) v' := by
  obtain ⟨C, k1, k2, k3⟩ := mks_fact P ht hi hz hs hsz ρ w (k := k) (k' := k') h0 h1 h2 h3
  obtain ⟨ρ', g1, g2, g3, g4⟩ := new_ok P h _ C k2 elem inf.size
  exact ⟨ρ', _, _, g1, k1, g3, slice_new g4 (by omega) (Nat.le_refl _) (by omega)⟩

theorem freeze_new (w : World) (C : Array Value) (E : TypeId) : (w.alloc (.cells C E)).freeze ⟨w.heap.size, C.size, none⟩ 1 = w.alloc (.cells C E (C.size, C.size + 1)) := by
  unfold World.freeze World.alloc
  rw [if_neg (by omega)]
  have : ∀ a b : Array Obj, a = b → { w with heap := a } = { w with heap := b } := by rintro _ _ rfl; rfl
  apply this
  apply Array.ext (by simp)
  intro i h1 h2
  rw [Array.getElem_modify]
  by_cases e : w.heap.size = i
  · subst e
    rw [if_pos rfl]
    simp
  · rw [if_neg e]
    have hi : i < w.heap.size := by simp at h1; omega
    simp [Array.getElem_push, hi]

theorem cvSB_fact (P : Program) (ρ : Ren) (w : World) (elem : TypeId) (s : ByteArray) (hs : s.size < 4611686018427387904) :
    ∃ C cap, (Conv.stringToBytes elem s).run P w = .ok (.slice (some ⟨w.heap.size, 0, none⟩) s.size cap) (w.drew.alloc (.cells C elem (C.size, C.size + 1))) ∧ s.size ≤ cap ∧ cap ≤ C.size ∧
      ∀ (i : Nat) (v : Value), (strCells s)[i]? = some v → isBad v = false → ∃ v', C[i]? = some v' ∧ VRel ρ v v' := by
  let cap := s.size + (w.tape w.drawn (.appendCap s.size 0 elem)) % (2 ^ 63 - s.size)
  let C : Array Value := (s.data.map fun b => (.int .u8 b.toNat : Value)) ++ Array.replicate (cap - s.size) (.int .u8 0)
  have hC : C.size = cap := by
    show (_ ++ _ : Array Value).size = _
    simp only [Array.size_append, Array.size_map, Array.size_replicate]
    have : s.data.size = s.size := rfl
    omega
  refine ⟨C, cap, ?_, by omega, by omega, fun i v hi hb => ⟨v, ?_, ?_⟩⟩
  · unfold Conv.stringToBytes
    simp only [Sem.run_bind, run_choose, Question.forced, Bool.false_eq_true, if_false, Result.andThen_ok, World.drew_eq, newRow, run_newObj, Sem.run_pure, World.alloc_eq, Question.cut]
    have hm : (markStringish ⟨w.drew.heap.size, 0, none⟩).run P (w.drew.alloc (.cells C elem)) = .ok () (w.drew.alloc (.cells C elem (C.size, C.size + 1))) := by
      unfold markStringish
      simp only [Sem.run_bind, run_shape, Result.andThen_ok, World.shape?, heap_alloc_new, run_freeze, freeze_new]
    have hm' : (markStringish ⟨w.drew.heap.size, 0, none⟩).run P (w.drew.alloc (.cells ((s.data.map fun b => (.int .u8 b.toNat : Value)) ++ Array.replicate (s.size + w.tape w.drawn (.appendCap s.size 0 elem) % (2 ^ 63 - s.size) - s.size) (.int .u8 0)) elem)) = .ok () (w.drew.alloc (.cells C elem (C.size, C.size + 1))) := hm
    rw [hm']
    rfl
  · show (_ ++ _ : Array Value)[i]? = _
    have hi' : i < s.data.size := by
      have := (List.getElem?_eq_some_iff.mp hi).1
      simpa [strCells] using this
    rw [Array.getElem?_append_left (by simpa using hi')]
    simpa [strCells] using hi
  · refine VRel.scalar_refl ?_
    have := List.mem_of_getElem? hi
    simp only [strCells, List.mem_map] at this
    obtain ⟨b, _, rfl⟩ := this
    rfl
theorem cvSB_ok (P : Program) {W0 : Fz} {ρ : Ren} {S : AW} {w : World} (h : RelW W0 ρ S w) (elem : TypeId) (s : ByteArray) (hs : s.size < 4611686018427387904) :
    ∃ ρ' v' w', Grow S.next (S.next + 1) ρ ρ' ∧ (Conv.stringToBytes elem s).run P w = .ok v' w' ∧ RelW W0 ρ' (S.new (strCells s) elem 1) w' ∧ VRel ρ' (.slice (some ⟨S.next, 0, none⟩) s.size s.size) v' := by
  obtain ⟨C, cap, h1, h2, h3, h4⟩ := cvSB_fact P ρ w elem s hs
  have g := h.drew.new (strCells s) C elem 1 (C.size, C.size + 1) (Or.inr (Nat.le_refl _)) h4
  exact ⟨_, _, _, Grow.add _ (h.fresh S.next (Nat.le_refl _)), h1, g, slice_new (es := 1) (sz := C.size) (Ren.add_same _ _ _) (Nat.le_refl _) h2 (by omega)⟩
end Go.Proofs.Ythclmjelknibhaa.Ev
