/- Words of this session beside the printer's own: 'copy' onto a row of the call's own, and make with a capacity of its own, in the form in which the printed walks take them. -/
import Derived.Test.YthgimjbmjeidpaaProg
import Derived.Test.YthgimjbmjeidpaaWWords
import Derived.Lib.SliceRun
import Derived.Laws.MakeOwn
import Derived.Lib.SlBytesConst
namespace Go.Proofs.YthgimjbmjeidpaaW.PrintWords
open Go.RowKit
namespace Kd
section
variable {P : Program} {ops : Array Oper} {Q : Exit → Act → World → Prop} {α : Type} {rest : List Oper} {o : Oper} {a : Act}
/-- 'copy(out, xs)', told as the printed walks tell an append: the row keeps its value. -/
theorem R_copy_told {enc : α → Value} {h1 : ∀ x, (enc x).oneCell' = true} (d : α) {w0 W : World} (base : Nat) (hgd : o.guard = none) (s x : Operand) (t t' e : TypeId)
    (ho : o.op = .call { callee := .builtin .copy, args := #[s, x], argTypes := #[t, t'] }) (ht : P.underlying t = some (.slice e)) (hinfo : (P.info? e).map (·.size) = some 1)
    (v : Value) (xs ys : List α) (A : Option Addr) (m c : Nat) (ok : Nat → Prop) (hs : a.eval s = v) (hx : a.eval x = .slice A m c)
    (HO : (scalar enc h1).R e W base ok v xs) (HR : (scalar enc h1).C W A m ys) (_hf : ∀ k, W.heap.size ≤ k → ok k) (HB : Below base w0 W) (hbase : base ≤ W.heap.size) (_hl : (0 : Nat) ≤ 1)
    (h : ∀ v1 w1, v1 = v → (scalar enc h1).R e w1 base ok v1 (ys.take (min ys.length xs.length) ++ xs.drop (min ys.length xs.length)) → Below base w0 w1 → W.grownBy w1 v.ownBlock → (v1.ownBlock = v.ownBlock ∨ ∃ b, v1.ownBlock = some b ∧ W.heap.size ≤ b) → wpList P ops Q rest (a.put o.dst (.int .i64 ((min m xs.length : Nat) : Int))) w1) :
    wpList P ops Q (o :: rest) a W := by
  have hm : ys.length = m := HR.1
  refine R_copy d base hgd s x t t' e ho ht hinfo v xs ys A m c ok hs hx HO HR HB hbase ?_
  intro w1 hr hb hg
  refine h v w1 rfl ?_ hb hg (.inl rfl)
  rw [hm]
  exact hr
/-- 'make([]T, 0, m)'. -/
theorem R_make_cap (d : Kd α) {w0 W : World} (base e : Nat) (hgd : o.guard = none) {N : Tmp} (_hd : o.dst = some N) (t : TypeId) (x y : Operand) (ho : o.op = .makeSlice t x y) (m : Int) (hx : a.eval x = .int .i64 0) (hy : a.eval y = .int .i64 m)
    (ht : P.underlying t = some (.slice e)) (z : Value) (bytes : Nat) (hinfo : (P.info? e).map (fun i => (i.zero, i.size, i.bytes)) = some (some z, d.sz, bytes)) (_hz : z.cells.size = d.sz) (hb0 : 0 < bytes)
    {ok : Nat → Prop} (hfresh : ok W.heap.size) (h0 : 0 ≤ m) (hl : m.toNat * bytes ≤ 281474976710656) (HB : Below base w0 W) (hbase : base ≤ W.heap.size)
    (h : ∀ v1 w1, d.R e w1 base ok v1 ([] : List α) → Below base w0 w1 → W.grownBy w1 none → (∃ b, v1.ownBlock = some b ∧ W.heap.size ≤ b) → wpList P ops Q rest (a.put o.dst v1) w1) : wpList P ops Q (o :: rest) a W := by
  obtain ⟨n, rfl⟩ := Int.eq_ofNat_of_zero_le h0
  simp only [Int.toNat_natCast] at hl
  obtain ⟨i0, hi, hzz⟩ := Option.map_eq_some_iff.1 hinfo
  simp only [Prod.mk.injEq] at hzz
  obtain ⟨hz0, hz1, hz2⟩ := hzz
  have hn : n ≤ 281474976710656 := Nat.le_trans (Nat.le_mul_of_pos_right _ hb0) hl
  have hr := run_make (P := P) W t e i0 z ht hi hz0 .i64 .i64 (0 : Int) (n : Int) (by omega) (by omega)
    (by
      have h3 : ((i0.bytes * n : Nat) : Int) ≤ 281474976710656 := by rw [hz2, Nat.mul_comm]; omega
      rwa [Int.natCast_mul] at h3) (by omega)
  simp only [Int.toNat_natCast] at hr
  rw [hz1] at hr
  have hh := heap_alloc_new W (.cells (madeCells z.cells (n * d.sz)) e (0, 0))
  have key := h (.slice (some ⟨W.heap.size, 0, none⟩) 0 n) (W.alloc (.cells (madeCells z.cells (n * d.sz)) e (0, 0)))
    ⟨by intro k hk; have : k = W.heap.size := by simpa [Value.ownBlock] using hk.symm
        subst this; exact hfresh, [], ⟨by simp, .inr ⟨W.heap.size, n, _, rfl, hbase, hh, by simp, by unfold maxLen; omega, by rw [size_madeCells], by simp⟩⟩, Reps.none _ _⟩
    (HB.alloc hbase _) (World.grownBy_alloc W _ none) ⟨W.heap.size, rfl, Nat.le_refl _⟩
  refine event_run hgd (by simp [execOp, ho, hx, hy, hr]) key
end
end Kd
end Go.Proofs.YthgimjbmjeidpaaW.PrintWords
namespace Go.Proofs.YthgimjbmjeidpaaW.PrintWords
open Go.RowKit
/-- A literal's row, as the walk itself makes it, read as numbers. -/
theorem lit_C (W : World) (e : TypeId) (k : IntKind) (xs : List Int) (h : xs.length ≤ 9223372036854775807) :
    (Kd.int k).C (W.alloc (.cells (nums k xs).toArray e)) (some ⟨W.heap.size, 0, none⟩) xs.length xs := by
  have h1 := own_lit W 0 e k xs (Nat.zero_le _) h
  exact Kd.C_of_reads (enc := Value.int k) (d := (0 : Int)) (h1 := fun _ => rfl) (own_reads' h1)
theorem lit_Cg (W : World) (e : TypeId) (k : IntKind) (xs : List Int) (g : Nat) (hg : W.heap.size = g) (h : xs.length ≤ 9223372036854775807) :
    (Kd.int k).C (W.alloc (.cells (nums k xs).toArray e)) (some ⟨g, 0, none⟩) xs.length xs := by
  subst hg
  exact lit_C W e k xs h
/-- Behind the conversion of a constant text to bytes: a place behind the row's last cell is marked, the row reads as before. -/
theorem lit_C_marked (W : World) (e : TypeId) (k : IntKind) (xs : List Int) (p q : Nat) (h : xs.length ≤ 9223372036854775807) :
    (Kd.int k).C (W.alloc (.cells (nums k xs).toArray e (p, q))) (some ⟨W.heap.size, 0, none⟩) xs.length xs := by
  have h1 := (lit_C W e k xs h)
  have hc : ∀ a : Addr, (W.alloc (.cells (nums k xs).toArray e (p, q))).cell? a = (W.alloc (.cells (nums k xs).toArray e)).cell? a := by
    intro a
    simp only [World.cell?, World.alloc]
    rcases Nat.lt_trichotomy a.block W.heap.size with hlt | heq | hgt
    · simp [Array.getElem?_push, Nat.ne_of_lt hlt]
    · simp [heq]
    · simp [Array.getElem?_push, Nat.ne_of_gt hgt]
  refine ⟨h1.1, h1.2.1, fun hp => ?_⟩
  obtain ⟨ad, e1, h2⟩ := h1.2.2 hp
  refine ⟨ad, e1, fun j x hj => ?_⟩
  obtain ⟨c, hc1, hc2, hc3⟩ := h2 j x hj
  exact ⟨c, hc1, hc2, fun i u hu => by rw [hc]; exact hc3 i u hu⟩
end Go.Proofs.YthgimjbmjeidpaaW.PrintWords
