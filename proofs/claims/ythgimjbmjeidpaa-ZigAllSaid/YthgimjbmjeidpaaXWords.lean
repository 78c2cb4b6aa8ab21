/- Words of this session beside the printer's own: 'copy' onto a row of the call's own, and make with a capacity of its own, in the form in which the printed walks take them. -/
import Derived.Test.YthgimjbmjeidpaaProg
import Derived.Test.YthgimjbmjeidpaaWWords
import Derived.Lib.SliceRun
import Derived.Laws.MakeOwn
import Derived.Lib.SlBytesConst
import Derived.Deep.DeepAppendRoom
import Derived.Room.AppendFits
namespace Go.Proofs.YthgimjbmjeidpaaW.PrintWords
open Go.RowKit
namespace Kd
section
variable {P : Program} {ops : Array Oper} {Q : Exit → Act → World → Prop} {α : Type} {rest : List Oper} {o : Oper} {a : Act}
/-- 'copy(out, xs)', told as the printed walks tell an append: the row keeps its value. -/
theorem R_copy_told {enc : α → Value} {h1 : ∀ x, (enc x).oneCell' = true} (d : α) {w0 W : World} (base : Nat) (hgd : o.guard = none) (s x : Operand) (t t' e : TypeId)
    (ho : o.op = .call { callee := .builtin .copy, args := #[s, x], argTypes := #[t, t'] }) (ht : P.underlying t = some (.slice e)) (hinfo : (P.info? e).map (·.size) = some 1)
    (v : Value) (xs ys : List α) (A : Option Addr) (m c : Nat) (ok : Nat → Prop) (hs : a.eval s = v) (hx : a.eval x = .slice A m c)
    (HO : (scalar enc h1).R e W base ok v xs) (HR : (scalar enc h1).C W A m ys) (_hf : ∀ k, W.heap.size ≤ k → ok k) (HB : Below base w0 W) (hbase : base ≤ W.heap.size) (_hl : (0 : Nat) ≤ 1)
    (h : ∀ v1 w1, v1 = v → (scalar enc h1).R e w1 base ok v1 (ys.take (min ys.length xs.length) ++ xs.drop (min ys.length xs.length)) → Below base w0 w1 → W.grownBy w1 v.ownBlock → (v1.ownBlock = v.ownBlock ∨ ∃ b, v1.ownBlock = some b ∧ W.heap.size ≤ b) → wpList P ops Q rest (a.put o.dst (.int .i64 ((min m xs.length : Nat) : Int))) w1) :
    wpList P ops Q (o :: rest) a W := by
  have hm : ys.length = m := HR.1
  refine R_copy d base hgd s x t t' e ho ht hinfo v xs ys A m c ok hs hx HO HR HB hbase ?_
  intro w1 hr hb hg
  refine h v w1 rfl ?_ hb hg (.inl rfl)
  rw [hm]
  exact hr
theorem made_take (z : Array Value) (n m : Nat) (h : n ≤ m) : (madeCells z m).toList.take n = (madeCells z n).toList := by
  simp only [madeCells, Array.toList_map, Array.toList_range]
  rw [← List.map_take, List.take_range, Nat.min_eq_left h]
/-- 'make([]T, n, m)'. -/
theorem R_make_cap (d : Kd α) {w0 W : World} (base e : Nat) (hgd : o.guard = none) {N : Tmp} (_hd : o.dst = some N) (t : TypeId) (x y : Operand) (ho : o.op = .makeSlice t x y) (n m : Int) (hx : a.eval x = .int .i64 n) (hy : a.eval y = .int .i64 m)
    (ht : P.underlying t = some (.slice e)) (z : Value) (bytes : Nat) (hinfo : (P.info? e).map (fun i => (i.zero, i.size, i.bytes)) = some (some z, d.sz, bytes)) (hz : z.cells.size = d.sz) (hs0 : 0 < d.sz) (hb0 : 0 < bytes)
    (z0 : α) (hzero : d.M W base (fun _ => True) z0 z.cells.toList) (hn0 : 0 ≤ n) (hnm : n ≤ m) (hl : m.toNat * bytes ≤ 281474976710656) (HB : Below base w0 W) (hbase : base ≤ W.heap.size)
    (h : ∀ v1 w1, d.R e w1 base (fun _ => True) v1 (List.replicate n.toNat z0) → Below base w0 w1 → W.grownBy w1 none → (∃ b, v1.ownBlock = some b ∧ W.heap.size ≤ b) → wpList P ops Q rest (a.put o.dst v1) w1) : wpList P ops Q (o :: rest) a W := by
  obtain ⟨n, rfl⟩ := Int.eq_ofNat_of_zero_le hn0
  obtain ⟨m, rfl⟩ := Int.eq_ofNat_of_zero_le (show 0 ≤ m by omega)
  simp only [Int.toNat_natCast] at hl h
  obtain ⟨i0, hi, hzz⟩ := Option.map_eq_some_iff.1 hinfo
  simp only [Prod.mk.injEq] at hzz
  obtain ⟨hz0, hz1, hz2⟩ := hzz
  have hm : m ≤ 281474976710656 := Nat.le_trans (Nat.le_mul_of_pos_right _ hb0) hl
  have hnm' : n ≤ m := by omega
  have hr := run_make (P := P) W t e i0 z ht hi hz0 .i64 .i64 (n : Int) (m : Int) (by omega) (by omega)
    (by
      have h3 : ((i0.bytes * m : Nat) : Int) ≤ 281474976710656 := by rw [hz2, Nat.mul_comm]; omega
      rwa [Int.natCast_mul] at h3) (by omega)
  simp only [Int.toNat_natCast] at hr
  rw [hz1] at hr
  have hh := heap_alloc_new W (.cells (madeCells z.cells (m * d.sz)) e (0, 0))
  have hlen : n * d.sz ≤ m * d.sz := Nat.mul_le_mul_right _ hnm'
  have hrep := reps_made hz hs0 hzero n
  have key := h (.slice (some ⟨W.heap.size, 0, none⟩) n m) (W.alloc (.cells (madeCells z.cells (m * d.sz)) e (0, 0)))
    ⟨fun _ _ => trivial, (madeCells z.cells (n * d.sz)).toList, by
        rw [List.length_replicate]
        exact ⟨by rw [Array.length_toList, size_madeCells], .inr ⟨W.heap.size, m, _, rfl, hbase, hh, hnm', by unfold maxLen; omega, by rw [size_madeCells], made_take _ _ _ hlen⟩⟩,
      hrep.imp_ (fun p c hp => d.M_mono (fun k hk => ⟨trivial, fun he => by
        have h3 : k = W.heap.size := by simpa [Value.ownBlock] using he
        have := hk.2.2.1
        omega⟩) (M_below (d.M_bound hp) (below_alloc (Below.refl _ _) _)))⟩
    (HB.alloc hbase _) (World.grownBy_alloc W _ none) ⟨W.heap.size, rfl, Nat.le_refl _⟩
  refine event_run hgd (by simp [execOp, ho, hx, hy, hr]) key
end
end Kd
end Go.Proofs.YthgimjbmjeidpaaW.PrintWords
namespace Go.Proofs.YthgimjbmjeidpaaW.PrintWords
open Go.RowKit
/-- A literal's row, as the walk itself makes it, read as numbers. -/
theorem lit_C (W : World) (e : TypeId) (k : IntKind) (xs : List Int) (h : xs.length ≤ 9223372036854775807) :
    (Kd.int k).C (W.alloc (.cells (nums k xs).toArray e)) (some ⟨W.heap.size, 0, none⟩) xs.length xs := by
  have h1 := own_lit W 0 e k xs (Nat.zero_le _) h
  exact Kd.C_of_reads (enc := Value.int k) (d := (0 : Int)) (h1 := fun _ => rfl) (own_reads' h1)
theorem lit_Cg (W : World) (e : TypeId) (k : IntKind) (xs : List Int) (g : Nat) (hg : W.heap.size = g) (h : xs.length ≤ 9223372036854775807) :
    (Kd.int k).C (W.alloc (.cells (nums k xs).toArray e)) (some ⟨g, 0, none⟩) xs.length xs := by
  subst hg
  exact lit_C W e k xs h
/-- Behind the conversion of a constant text to bytes: a place behind the row's last cell is marked, the row reads as before. -/
theorem lit_C_marked (W : World) (e : TypeId) (k : IntKind) (xs : List Int) (p q : Nat) (h : xs.length ≤ 9223372036854775807) :
    (Kd.int k).C (W.alloc (.cells (nums k xs).toArray e (p, q))) (some ⟨W.heap.size, 0, none⟩) xs.length xs := by
  have h1 := (lit_C W e k xs h)
  have hc : ∀ a : Addr, (W.alloc (.cells (nums k xs).toArray e (p, q))).cell? a = (W.alloc (.cells (nums k xs).toArray e)).cell? a := by
    intro a
    simp only [World.cell?, World.alloc]
    rcases Nat.lt_trichotomy a.block W.heap.size with hlt | heq | hgt
    · simp [Array.getElem?_push, Nat.ne_of_lt hlt]
    · simp [heq]
    · simp [Array.getElem?_push, Nat.ne_of_gt hgt]
  refine ⟨h1.1, h1.2.1, fun hp => ?_⟩
  obtain ⟨ad, e1, h2⟩ := h1.2.2 hp
  refine ⟨ad, e1, fun j x hj => ?_⟩
  obtain ⟨c, hc1, hc2, hc3⟩ := h2 j x hj
  exact ⟨c, hc1, hc2, fun i u hu => by rw [hc]; exact hc3 i u hu⟩
/-- A literal of two rows that came in, as the walk itself makes it. -/
theorem lit_rows2 (W : World) (e E : Nat) {k : IntKind} {A0 A1 : Option Addr} {c0 c1 : Nat} {l0 l1 : List Int} (h0 : (Kd.int k).C W A0 l0.length l0) (hc0 : l0.length ≤ c0) (h1 : (Kd.int k).C W A1 l1.length l1) (hc1 : l1.length ≤ c1) :
    (Kd.slice E (Kd.int k)).C (W.alloc (.cells #[.slice A0 l0.length c0, .slice A1 l1.length c1] e)) (some ⟨W.heap.size, 0, none⟩) [l0, l1].length [l0, l1] := by
  have hh := heap_alloc_new W (.cells #[.slice A0 l0.length c0, .slice A1 l1.length c1] e)
  refine ⟨rfl, by simp, fun _ => ⟨_, rfl, fun j p hj => ?_⟩⟩
  match j, hj with
  | 0, hj =>
    obtain rfl : l0 = p := by simpa using hj
    refine ⟨[.slice A0 l0.length c0], rfl, ⟨A0, c0, rfl, hc0, Kd.C_alloc h0 _⟩, fun i u hu => ?_⟩
    match i, hu with
    | 0, hu =>
      obtain rfl : Value.slice A0 l0.length c0 = u := by simpa using hu
      show World.cell? _ (⟨W.heap.size, 0, none⟩ : Addr) = _
      simp only [World.cell?, hh]
      rfl
  | 1, hj =>
    obtain rfl : l1 = p := by simpa using hj
    refine ⟨[.slice A1 l1.length c1], rfl, ⟨A1, c1, rfl, hc1, Kd.C_alloc h1 _⟩, fun i u hu => ?_⟩
    match i, hu with
    | 0, hu =>
      obtain rfl : Value.slice A1 l1.length c1 = u := by simpa using hu
      show World.cell? _ (⟨W.heap.size, 1, none⟩ : Addr) = _
      simp only [World.cell?, hh]
      rfl
end Go.Proofs.YthgimjbmjeidpaaW.PrintWords
