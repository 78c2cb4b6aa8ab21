/- What the operations that asks nothing of memory do: parts put together, cuts, places. -/
import Derived.Test.YthclmjelknibhaaEv6
namespace Go.Proofs.Ythclmjelknibhaa.Ev
open Go Go.RowKit
set_option linter.unusedVariables false
set_option linter.unusedSimpArgs false
set_option linter.unusedSectionVars false

theorem VRel.cells {ρ : Ren} {v v' : Value} (h : VRel ρ v v') (hb : isBad v = false) : ARel ρ (cellsOf v).toArray v'.cells := by
  have one : ∀ {v v' : Value}, VRel ρ v v' → ARel ρ [v].toArray #[v'] := fun h => ⟨rfl, fun i h1 h2 => by
    have : i = 0 := by simp at h1; omega
    subst this; exact h⟩
  cases v with
  | agg cs => obtain ⟨cs', rfl, hr⟩ := h.agg_inv; simpa [cellsOf, Value.cells] using hr
  | _ => cases h <;> first | (simp [isBad, Ev.bad] at hb; done) | exact one (by first | exact .bool _ | exact .int _ _ | exact .float _ _ | exact .string _ | exact .nilp | exact .nils | exact .nilm | exact .nilf | (constructor <;> assumption))

theorem foldl_cells (off : Nat) : ∀ (vs : List Value) (k : Nat) (cs : Array Value), off + k + vs.length ≤ cs.size →
    ((vs.zipIdx k).foldl (fun cs (p : Value × Nat) => cs.setIfInBounds (off + p.2) p.1) cs).toList = cs.toList.take (off + k) ++ vs ++ cs.toList.drop (off + k + vs.length)
  | [], k, cs, _ => by simp
  | v :: vs, k, cs, h => by
    simp only [List.length_cons] at h
    simp only [List.zipIdx_cons, List.foldl_cons]
    rw [foldl_cells off vs (k + 1) _ (by simp; omega)]
    simp only [Array.toList_setIfInBounds, List.length_cons]
    have h1 : off + k < cs.toList.length := by simp; omega
    rw [show off + (k + 1) = off + k + 1 from by omega, List.take_add_one]
    rw [List.getElem?_set_self h1, List.take_set_of_le (Nat.le_refl _), List.drop_set_of_lt (by omega)]
    simp [show off + k + 1 + vs.length = off + k + (vs.length + 1) from by omega]

theorem ARel.splice {ρ : Ren} {a b : List Value} {a' b' : Array Value} (h : ARel ρ a.toArray a') (k : ARel ρ b.toArray b') (off : Nat) (hl : off + b.length ≤ a.length) :
    ARel ρ (a.take off ++ b ++ a.drop (off + b.length)).toArray (a'.toList.take off ++ b'.toList ++ a'.toList.drop (off + b.length)).toArray := by
  have e1 : a.length = a'.size := by simpa using h.1
  have e2 : b.length = b'.size := by simpa using k.1
  refine ⟨by simp; omega, fun i h1 h2 => ?_⟩
  simp only [List.getElem_toArray, List.getElem_append, List.length_append, List.length_take, Array.length_toList, List.getElem_take, List.getElem_drop, Array.getElem_toList]
  have m1 : min off a.length = off := by omega
  have m2 : min off a'.size = off := by omega
  simp only [m1, m2, ← e2]
  by_cases c1 : i < off
  · rw [dif_pos (by omega), dif_pos c1, dif_pos (by omega), dif_pos c1]
    have := h.2 i (by simp; omega) (by omega)
    simpa using this
  · by_cases c2 : i < off + b.length
    · rw [dif_pos c2, dif_neg c1, dif_pos c2, dif_neg c1]
      have := k.2 (i - off) (by simp; omega) (by omega)
      simpa using this
    · rw [dif_neg c2, dif_neg c2]
      have hi : i < a.length := by simp at h1; omega
      have := h.2 (off + b.length + (i - (off + b.length))) (by simp; omega) (by omega)
      simpa using this

theorem fill_ok {ρ : Ren} {F : AF} {a : Act} (h : FRel ρ F a) (place : Nat → Option (Nat × Nat)) : ∀ (ps : List (Nat × Operand)) (qs : List (Nat × Nat × Operand)) (zero : List Value) (cells : Array Value) (l : List Value),
    ps.mapM (fun (p : Nat × Operand) => (place p.1).map fun q => (q.1, q.2, p.2)) = some qs → ARel ρ zero.toArray cells →
    fillL zero (qs.map fun (q : Nat × Nat × Operand) => (q.1, q.2.1, F.ev q.2.2)) = some l →
    ∃ cells', Instr.fill place cells (ps.map fun (p : Nat × Operand) => (p.1, a.eval p.2)) = some cells' ∧ ARel ρ l.toArray cells'
  | [], qs, zero, cells, l, hm, hz, hf => by
    simp only [List.mapM_nil, Option.pure_def, Option.some.injEq] at hm
    subst hm
    simp only [List.map_nil, fillL, Option.some.injEq] at hf
    subst hf
    exact ⟨cells, rfl, hz⟩
  | (i, x) :: ps, qs, zero, cells, l, hm, hz, hf => by
    simp only [List.mapM_cons, Option.bind_eq_bind, Option.pure_def] at hm
    obtain ⟨q, hq, hm⟩ := Option.bind_eq_some_iff.mp hm
    obtain ⟨qs', hqs, hm⟩ := Option.bind_eq_some_iff.mp hm
    simp only [Option.some.injEq] at hm
    subst hm
    obtain ⟨⟨off, size⟩, hp, hq⟩ := Option.map_eq_some_iff.mp hq
    subst hq
    simp only [List.map_cons, fillL] at hf
    split at hf
    · cases hf
    · rename_i hb
      have hb : isBad (F.ev x) = false := by simpa using hb
      split at hf
      · rename_i hlen
        have hv := (h.eval x).cells hb
        have hz' := hz.splice hv off (by omega)
        rw [hlen.1] at hz'
        have e1 : zero.length = cells.size := by simpa using hz.1
        have e2 : size = (a.eval x).cells.size := by rw [← hlen.1]; simpa using hv.1
        obtain ⟨cells', h1, h2⟩ := fill_ok h place ps qs' _ _ l hqs hz' hf
        refine ⟨cells', ?_, h2⟩
        simp only [List.map_cons, Instr.fill, hp]
        rw [if_neg (by simp; omega)]
        rw [← h1]
        congr 1
        apply Array.ext'
        rw [← Array.foldl_toList, Array.toList_zipIdx]
        have := foldl_cells off (a.eval x).cells.toList 0 cells (by simp; omega)
        simpa [← e2] using this
      · cases hf
end Go.Proofs.Ythclmjelknibhaa.Ev
