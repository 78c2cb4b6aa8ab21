/- What append does, ours and the model's. -/
import Derived.Test.YthclmjelknibhaaEv11
namespace Go.Proofs.Ythclmjelknibhaa.Ev
open Go Go.RowKit
set_option linter.unusedVariables false
set_option linter.unusedSimpArgs false
set_option linter.unusedSectionVars false

theorem src_ok (P : Program) {W0 : Fz} {ρ : Ren} {S : AW} {w : World} (h : RelW W0 ρ S w) {size n : Nat} {x x' : Value} (hx : VRel ρ x x') {nw : List Value} (e : srcCells S size x = some (n, nw)) :
    (Builtin.lenOf x').run P w = .ok n w ∧ nw.length = n * size ∧ ∃ arr, (Builtin.firstCells size n x').run P w = .ok arr w ∧ ARel ρ nw.toArray arr := by
  cases x with
  | string s =>
    simp only [srcCells] at e
    split at e
    · rename_i hs
      subst hs
      simp only [Option.some.injEq, Prod.mk.injEq] at e
      obtain ⟨rfl, rfl⟩ := e
      have := hx.string_inv
      subst this
      refine ⟨rfl, ?_, _, rfl, ?_⟩
      · simp [strCells]
      · have e1 : (s.extract 0 s.size) = s := by
          exact ByteArray.ext (by simp)
        rw [e1]
        have e2 : (s.data.map fun b => (.int .u8 b.toNat : Value)) = (strCells s).toArray := by apply Array.ext'; simp [strCells]
        rw [e2]
        refine scalars_rel ?_
        simp only [strCells, List.all_map, List.all_eq_true]
        intro b _; rfl
    · cases e
  | slice a l c =>
    cases a with
    | none =>
      simp only [srcCells, Option.some.injEq, Prod.mk.injEq] at e
      obtain ⟨rfl, rfl⟩ := e
      obtain ⟨rfl, rfl, rfl⟩ := hx.nils_inv
      exact ⟨rfl, by simp, #[], rfl, rfl, fun i h => by simp at h⟩
    | some a =>
      obtain ⟨i, o, sp⟩ := a
      cases sp with
      | some _ => simp [srcCells] at e
      | none =>
        obtain ⟨p, a', c', hp, hn, hc, ha, rfl⟩ := hx.slice_inv
        simp only [srcCells] at e
        split at e
        · rename_i h0
          simp only [Option.some.injEq, Prod.mk.injEq] at e
          obtain ⟨rfl, rfl⟩ := e
          refine ⟨rfl, by simpa using h0.symm, #[], ?_, rfl, fun i h => by simp at h⟩
          simp only [Builtin.firstCells, h0]
          rfl
        · rename_i h0
          obtain ⟨l1, hl1, e⟩ := Option.map_eq_some_iff.mp e
          simp only [Prod.mk.injEq] at e
          obtain ⟨rfl, rfl⟩ := e
          have hpos : 0 < l := by
            rcases Nat.eq_zero_or_pos l with h | h
            · subst h; simp at h0
            · exact h
          obtain ⟨o', rfl, ho, _⟩ := ha (by omega)
          obtain ⟨l', g1, g2, g3⟩ := row_ok h hl1 hp ho
          have := loadCells_ok (P := P) g3
          refine ⟨rfl, ?_, l'.toArray, ?_, g2⟩
          · have := g2.1; simp at this; omega
          · simp only [Builtin.firstCells]
            rw [← g1]; exact this
  | _ => simp [srcCells] at e

theorem growBy_le (need : Nat) : ∀ (rounds c : Nat), c ≤ 2 * need + 192 → Builtin.growBy need rounds c ≤ 2 * need + 192
  | 0, c, h => h
  | r + 1, c, h => by
    unfold Builtin.growBy
    split
    · exact h
    · exact growBy_le need r _ (by omega)
theorem next_le {need cap : Nat} (h : cap < need) : Builtin.nextslicecap need cap ≤ 2 * need + 192 := by
  unfold Builtin.nextslicecap
  split
  · omega
  · split
    · omega
    · exact growBy_le need 4 cap (by omega)

def putAt (base : Option Addr) (k : Nat) (l : List Value) : Sem Unit :=
  match base with
  | some a => storeCells (a.add k) l
  | none => pure ()
def isIntT : TypeDesc → Bool
  | .int _ => true
  | _ => false
section run
variable (P : Program) {argTypes : Array TypeId} {ty sT xT elem : TypeId} (h0 : argTypes[0]? = some sT) (h1 : argTypes[1]? = some xT) (hs : P.underlying sT = some (.slice elem))
  {d : TypeDesc} (hx : P.underlying xT = some d) (hd : isIntT d = false) {inf : TypeInfo} (hi : P.info? elem = some inf)
include h0 h1 hs hx hd hi
theorem append_here {base : Option Addr} {l c n : Nat} {x : Value} {w w' : World} {arr : Array Value} (hl : (Builtin.lenOf x).run P w = .ok n w) (hf : (Builtin.firstCells inf.size n x).run P w = .ok arr w)
    (hc : l + n ≤ c) (hst : (putAt base (l * inf.size) arr.toList).run P w = .ok () w') :
    (Builtin.append_ argTypes ty #[.slice base l c, x]).run P w = .ok (.slice base (l + n) c) w' := by
  have key : (Builtin.append_ argTypes ty #[.slice base l c, x]).run P w = ((putAt base (l * inf.size) arr.toList).run P w).andThen fun _ w => .ok (.slice base (l + n) c) w := by
    unfold Builtin.append_
    cases d <;> (try (simp [isIntT] at hd; done)) <;> cases base <;>
      simp only [h0, h1, List.getElem?_toArray, List.getElem?_cons_zero, List.getElem?_cons_succ, Sem.run_bind, run_underlying hs, run_underlying hx, Result.andThen_ok, run_size w hi, Sem.run_pure, hl, Bool.false_eq_true, if_false, Sem.run_ite, if_pos hc, Bool.not_false, if_true, hf, putAt]
  rw [key, hst]
  rfl
theorem append_new {base : Option Addr} {l c n : Nat} {x : Value} {w : World} {old arr : Array Value} {z : Value} (hz : inf.zero = some z) (hl : (Builtin.lenOf x).run P w = .ok n w)
    (hf : (Builtin.firstCells inf.size n x).run P w.drew = .ok arr w.drew) (hold : (Builtin.firstCells inf.size l (.slice base l c)).run P w.drew = .ok old w.drew)
    (hc : ¬ l + n ≤ c) (hb : (2 * (l + n) + 192) * inf.bytes ≤ 281474976710656) (hnb : l + n ≤ 9223372036854775807) :
    ∃ cap, l + n ≤ cap ∧ (Builtin.append_ argTypes ty #[.slice base l c, x]).run P w =
      .ok (.slice (some ⟨w.heap.size, 0, none⟩) (l + n) cap) (w.drew.alloc (.cells (old ++ arr ++ Builtin.zeroCells z.cells (cap - (l + n))) elem)) := by
  refine ⟨(Question.appendCap (l + n) c elem).cut (w.tape w.drawn (.appendCap (l + n) c elem)), Nat.le_add_right _ _, ?_⟩
  have hn1 : ¬ Builtin.nextslicecap (l + n) c * inf.bytes > 2 ^ 48 := by
    have := Nat.mul_le_mul_right inf.bytes (next_le (need := l + n) (cap := c) (by omega))
    omega
  have hn2 : ¬ (((l + n : Nat) : Int) > IntKind.i64.max ∧ (False ∨ inf.bytes = 0)) := by
    have : IntKind.i64.max = 9223372036854775807 := by decide
    omega
  unfold Builtin.append_
  cases d <;> (try (simp [isIntT] at hd; done)) <;>
      simp only [h0, h1, List.getElem?_toArray, List.getElem?_cons_zero, List.getElem?_cons_succ, Sem.run_bind, run_underlying hs, run_underlying hx, Result.andThen_ok, run_size w hi, Sem.run_pure, hl, Bool.false_eq_true, if_false, Sem.run_ite, if_neg hc, Bool.not_false, if_true, run_info w hi, if_neg hn1, if_neg hn2,
        run_choose, Question.forced, World.drew_eq, run_askRoom, hold, hf, run_info w.drew hi, run_zero hi hz, newRow, run_newObj, World.alloc_eq, World.size_drew]
end run
theorem wrap_i64n {m : Nat} (h : m ≤ 9223372036854775807) : IntKind.wrap .i64 (m : Int) = (m : Int) := by
  simp only [IntKind.wrap, IntKind.bits, IntKind.signed]
  simp
  omega
section runz
variable (P : Program) {argTypes : Array TypeId} {ty sT xT elem : TypeId} (h0 : argTypes[0]? = some sT) (h1 : argTypes[1]? = some xT) (hs : P.underlying sT = some (.slice elem))
  {kx : IntKind} (hx : P.underlying xT = some (.int kx)) {inf : TypeInfo} (hi : P.info? elem = some inf) {z : Value} (hz : inf.zero = some z) (hzs : z.cells.size = inf.size)
include h0 h1 hs hx hi hz hzs
theorem append_here_z {base : Option Addr} {l c n : Nat} {w w' : World} (hn : n ≤ 140737488355328) (hb : n * inf.bytes ≤ 281474976710656)
    (hc : l + n ≤ c) (hst : (putAt base (l * inf.size) (Builtin.zeroCells z.cells n).toList).run P w = .ok () w') :
    (Builtin.append_ argTypes ty #[.slice base l c, .int .i64 n]).run P w = .ok (.slice base (l + n) c) w' := by
  have hw : IntKind.i64.wrap (n : Int) = n := wrap_i64n (by omega)
  have hai : (asInt (.int .i64 n)).run P w = .ok (n : Int) w := rfl
  have hp : ¬ ((n : Int) < 0) := by omega
  have hbb : ¬ ((n : Int) * inf.bytes > 2 ^ 48) := by
    have : ((n * inf.bytes : Nat) : Int) ≤ 281474976710656 := by omega
    rw [Int.natCast_mul] at this
    have e : (2 : Int) ^ 48 = 281474976710656 := by decide
    omega
  have key : (Builtin.append_ argTypes ty #[.slice base l c, .int .i64 n]).run P w = ((putAt base (l * inf.size) (Builtin.zeroCells z.cells n).toList).run P w).andThen fun _ w => .ok (.slice base (l + n) c) w := by
    by_cases h00 : n * inf.size = 0
    · have he : Builtin.zeroCells z.cells n = #[] := by
        apply Array.eq_empty_of_size_eq_zero
        simp [Builtin.zeroCells, hzs, h00]
      unfold Builtin.append_
      cases base <;>
        simp only [h0, h1, List.getElem?_toArray, List.getElem?_cons_zero, List.getElem?_cons_succ, Sem.run_bind, run_underlying hs, run_underlying hx, Result.andThen_ok, run_size w hi, Sem.run_pure, if_true, hai, hw, if_neg hp, run_info w hi, if_neg hbb, Int.toNat_natCast, Sem.run_ite, if_pos hc, Bool.not_true, Bool.false_eq_true, if_false, if_pos h00, he, putAt]
    · unfold Builtin.append_
      cases base <;>
        simp only [h0, h1, List.getElem?_toArray, List.getElem?_cons_zero, List.getElem?_cons_succ, Sem.run_bind, run_underlying hs, run_underlying hx, Result.andThen_ok, run_size w hi, Sem.run_pure, if_true, hai, hw, if_neg hp, run_info w hi, if_neg hbb, Int.toNat_natCast, Sem.run_ite, if_pos hc, Bool.not_true, Bool.false_eq_true, if_false, if_neg h00, run_zero hi hz, putAt]
  rw [key, hst]
  rfl
theorem append_new_z {base : Option Addr} {l c n : Nat} {w : World} {old : Array Value} (hn : n ≤ 140737488355328) (hbn : n * inf.bytes ≤ 281474976710656)
    (hold : (Builtin.firstCells inf.size l (.slice base l c)).run P w.drew = .ok old w.drew)
    (hc : ¬ l + n ≤ c) (hb : (2 * (l + n) + 192) * inf.bytes ≤ 281474976710656) (hnb : l + n ≤ 9223372036854775807) :
    ∃ cap, l + n ≤ cap ∧ (Builtin.append_ argTypes ty #[.slice base l c, .int .i64 n]).run P w =
      .ok (.slice (some ⟨w.heap.size, 0, none⟩) (l + n) cap) (w.drew.alloc (.cells (old ++ Builtin.zeroCells z.cells n ++ Builtin.zeroCells z.cells (cap - (l + n))) elem)) := by
  refine ⟨(Question.appendCap (l + n) c elem).cut (w.tape w.drawn (.appendCap (l + n) c elem)), Nat.le_add_right _ _, ?_⟩
  have hn1 : ¬ Builtin.nextslicecap (l + n) c * inf.bytes > 2 ^ 48 := by
    have := Nat.mul_le_mul_right inf.bytes (next_le (need := l + n) (cap := c) (by omega))
    omega
  have hn2 : ¬ (((l + n : Nat) : Int) > IntKind.i64.max ∧ (True ∨ inf.bytes = 0)) := by
    have : IntKind.i64.max = 9223372036854775807 := by decide
    omega
  have hw : IntKind.i64.wrap (n : Int) = n := wrap_i64n (by omega)
  have hai : (asInt (.int .i64 n)).run P w = .ok (n : Int) w := rfl
  have hp : ¬ ((n : Int) < 0) := by omega
  have hbb : ¬ ((n : Int) * inf.bytes > 2 ^ 48) := by
    have : ((n * inf.bytes : Nat) : Int) ≤ 281474976710656 := by omega
    rw [Int.natCast_mul] at this
    have e : (2 : Int) ^ 48 = 281474976710656 := by decide
    omega
  by_cases h00 : n * inf.size = 0
  · have he : Builtin.zeroCells z.cells n = #[] := by
      apply Array.eq_empty_of_size_eq_zero
      simp [Builtin.zeroCells, hzs, h00]
    unfold Builtin.append_
    simp only [h0, h1, List.getElem?_toArray, List.getElem?_cons_zero, List.getElem?_cons_succ, Sem.run_bind, run_underlying hs, run_underlying hx, Result.andThen_ok, run_size w hi, Sem.run_pure, if_true, hai, hw, if_neg hp, run_info w hi, if_neg hbb, Int.toNat_natCast, Sem.run_ite, if_neg hc, if_neg hn1, if_neg hn2, Bool.not_true, Bool.false_eq_true, if_false, if_pos h00, he, Array.append_empty,
        run_choose, Question.forced, World.drew_eq, run_askRoom, hold, run_info w.drew hi, run_zero hi hz, newRow, run_newObj, World.alloc_eq, World.size_drew]
  · unfold Builtin.append_
    simp only [h0, h1, List.getElem?_toArray, List.getElem?_cons_zero, List.getElem?_cons_succ, Sem.run_bind, run_underlying hs, run_underlying hx, Result.andThen_ok, run_size w hi, Sem.run_pure, if_true, hai, hw, if_neg hp, run_info w hi, if_neg hbb, Int.toNat_natCast, Sem.run_ite, if_neg hc, if_neg hn1, if_neg hn2, Bool.not_true, Bool.false_eq_true, if_false, if_neg h00,
        run_choose, Question.forced, World.drew_eq, run_askRoom, hold, run_info w.drew hi, run_zero hi hz, newRow, run_newObj, World.alloc_eq, World.size_drew]
end runz
end Go.Proofs.Ythclmjelknibhaa.Ev
