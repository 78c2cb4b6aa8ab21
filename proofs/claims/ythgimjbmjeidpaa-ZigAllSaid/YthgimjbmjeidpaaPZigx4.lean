-- Written by xprint.py, a program of this session, out of the translation, by way of the kit's printer. Lean checks it.
import Derived.Test.YthgimjbmjeidpaaPZigx0
namespace Go.Proofs.Ythgimjbmjeidpaa.PZig
open Go.RowKit Go.Proofs.YthgimjbmjeidpaaW.PrintWords Go.Proofs.YthgimjbmjeidpaaW.PrintLast Go.Proofs.YthgimjbmjeidpaaW.PrintMore
attribute [local go_sem] max2_int min2_int max_two min_two max_three min_three max_four min_four   -- for this text's walks alone
set_option linter.unusedVariables false
set_option linter.unusedSimpArgs false

/-! ### assayerlaw0_Twin: function 15 (a contract of our own) -/
section
variable {P : Program} {ops : Array Oper} {rest : List Oper} {o : Oper} {a : Act} {Q : Exit → Act → World → Prop} {W : World}
theorem assayerlaw0_Twin.make0 (hgd : o.guard = none) (t e : TypeId) (x y : Operand) (ho : o.op = .makeSlice t x y) (m : Nat) (hx : a.eval x = .int .i64 0) (hy : a.eval y = .int .i64 (m : Int)) (ht : P.underlying t = some (.slice e))
    (hinfo : (P.info? e).map (fun i => (i.zero, i.size, i.bytes)) = some (some (.int .u8 0), 1, 1)) (hm : m ≤ 1000000) (base : Nat) (hbase : base ≤ W.heap.size)
    (h : ∀ w1 : World, w1.ownsRow base e 1 (.slice (some ⟨W.heap.size, 0, none⟩) 0 m) 0 (nums .u8 []) → W.grownBy w1 none → wpList P ops Q rest (a.put o.dst (.slice (some ⟨W.heap.size, 0, none⟩) 0 m)) w1) : wpList P ops Q (o :: rest) a W := by
  obtain ⟨i0, hi, hzz⟩ := Option.map_eq_some_iff.1 hinfo
  simp only [Prod.mk.injEq] at hzz
  obtain ⟨hz0, hz1, hz2⟩ := hzz
  have hr := run_make (P := P) W t e i0 (.int .u8 0) ht hi hz0 .i64 .i64 0 (m : Int) (by omega) (by omega) (by rw [hz2]; omega) (by omega)
  rw [hz1, Int.toNat_natCast, show (0 : Int).toNat = 0 from rfl] at hr
  have hh := heap_alloc_new W (.cells (madeCells (Value.cells (.int .u8 0)) (m * 1)) e (0, 0))
  refine Kd.event_run hgd (by simp [execOp, ho, hx, hy, hr]) (h _ ⟨rfl, .inr ⟨W.heap.size, m, _, rfl, hbase, hh, Nat.zero_le _, by unfold maxLen; omega, by rw [size_madeCells], by rfl⟩⟩ (World.grownBy_alloc W _ none))
theorem assayerlaw0_Twin.app0 (hgd : o.guard = none) (s x : Operand) (t e : TypeId) (ho : o.op = .call { callee := .builtin .append, args := #[s, x], argTypes := #[t, t] }) (ht : P.underlying t = some (.slice e))
    (hinfo : (P.info? e).map (fun i => (i.zero, i.size, i.bytes)) = some (some (.int .u8 0), 1, 1)) (base g n cap : Nat) (xs : List Int) (hs : a.eval s = .slice (some ⟨g, 0, none⟩) n cap) (hown : W.ownsRow base e 1 (.slice (some ⟨g, 0, none⟩) n cap) n (nums .u8 xs))
    (A : Option Addr) (m c : Nat) (ys : List Int) (hx : a.eval x = .slice A m c) (HR : Kd.C (Kd.int .u8) W A m ys) (hroom : n + m ≤ cap) (q : Nat) (hq : n + m = q)
    (h : ∀ w' : World, w'.ownsRow base e 1 (.slice (some ⟨g, 0, none⟩) q cap) q (nums .u8 (xs ++ ys)) → W.grownBy w' (some g) → wpList P ops Q rest (a.put o.dst (.slice (some ⟨g, 0, none⟩) q cap)) w') : wpList P ops Q (o :: rest) a W := by
  obtain ⟨i0, hi, hzz⟩ := Option.map_eq_some_iff.1 hinfo
  simp only [Prod.mk.injEq] at hzz
  obtain ⟨hz0, hz1, hz2⟩ := hzz
  subst hq
  have hrd := Kd.reads_of_C (enc := Value.int .u8) (d := (0 : Int)) (h1 := fun _ => rfl) HR
  have hl : ys.length = m := hrd.1
  rcases A with _ | ad
  · have h0 : m = 0 := by
      rcases Nat.eq_zero_or_pos m with h0 | h0
      · exact h0
      · obtain ⟨ad, h1, _⟩ := hrd.2.2 h0
        cases h1
    subst h0
    obtain rfl : ys = [] := List.eq_nil_of_length_eq_zero hl
    have hncap : n ≤ cap := by omega
    refine Kd.event_run hgd (v := .slice (some ⟨g, 0, none⟩) n cap) (w1 := W) (by simp [execOp, ho, resolve, invoke, builtin, hs, hx, Builtin.append_, run_underlying ht, sizeOf, typeInfo, hi, Builtin.lenOf, Builtin.firstCells, hncap, storeCells]) ?_
    exact h W (by rw [List.append_nil]; exact hown) (World.grownBy.refl W _)
  · refine wpList_append_own_spare W hgd s x t ho base e i0 1 ht hi hz1 g n cap (nums .u8 xs) hs hown ad m c (nums .u8 ys) hx (by simp [nums, hl]) ?_ (by simp [nums, Value.oneCell']) hroom (fun w' h1 h2 => h w' (by rw [nums_append]; exact h1) h2)
    intro j u hu
    have hj : j < ys.length := by
      have := (List.getElem?_eq_some_iff.1 hu).1
      simpa [nums] using this
    obtain ⟨ad', e1, hc⟩ := hrd.2.2 (by omega)
    injection e1 with e1
    subst e1
    have h2 := hc j (by omega)
    rw [h2]
    have : (nums .u8 ys)[j]? = some (.int .u8 (ys.getD j 0)) := by
      simp [nums, List.getElem?_eq_getElem hj]
    rw [this] at hu
    exact hu
theorem assayerlaw0_Twin.app1 (hgd : o.guard = none) (s x : Operand) (t u e : TypeId) (ho : o.op = .call { callee := .builtin .append, args := #[s, x], argTypes := #[t, u] }) (ht : P.underlying t = some (.slice e)) (hu : P.underlying u = some .string)
    (hinfo : (P.info? e).map (fun i => (i.zero, i.size, i.bytes)) = some (some (.int .u8 0), 1, 1)) (base g n cap : Nat) (xs : List Int) (hs : a.eval s = .slice (some ⟨g, 0, none⟩) n cap) (hown : W.ownsRow base e 1 (.slice (some ⟨g, 0, none⟩) n cap) n (nums .u8 xs))
    (y : ByteArray) (hx : a.eval x = .string y) (h1 : 0 < cap) (hroom : n + y.size ≤ cap) (q : Nat) (hq : n + y.size = q)
    (h : ∀ w' : World, w'.ownsRow base e 1 (.slice (some ⟨g, 0, none⟩) q cap) q (nums .u8 (xs ++ bytesOf y)) → W.grownBy w' (some g) → wpList P ops Q rest (a.put o.dst (.slice (some ⟨g, 0, none⟩) q cap)) w') : wpList P ops Q (o :: rest) a W := by
  obtain ⟨i0, hi, hzz⟩ := Option.map_eq_some_iff.1 hinfo
  simp only [Prod.mk.injEq] at hzz
  obtain ⟨hz0, hz1, hz2⟩ := hzz
  subst hq
  have hc : nums .u8 (xs ++ bytesOf y) = nums .u8 xs ++ Lib.strCells y := by
    rw [nums_append]
    congr 1
    simp [nums, bytesOf, Lib.strCells]
  exact Lib.wpList_append_fits_string W hgd s x t u ho base e i0 ht hu hi hz1 (some ⟨g, 0, none⟩) n cap (nums .u8 xs) hs hown y hx h1 hroom (fun w' h2 h3 => h w' (by rw [hc]; exact h2) h3)
end
def assayerlaw0_Twin.f (l0 : List Int) : Option (List Int) := if l0.length ≤ 1000 then some l0 else none
/-- the room behind stands as it was laid -/
def assayerlaw0_Twin.Whole (w : World) (v : Value) (l : List Int) : Prop := ∃ g, v = .slice (some ⟨g, 0, none⟩) l.length (l.length + 5) ∧ Kd.C (Kd.int .u8) w (some ⟨g, 0, none⟩) (l ++ [115, 112, 97, 114, 101]).length (l ++ [115, 112, 97, 114, 101])
theorem assayerlaw0_Twin.Whole.below {w w1 : World} {v : Value} {l : List Int} (h : assayerlaw0_Twin.Whole w v l) (hb : Below w.heap.size w w1) : assayerlaw0_Twin.Whole w1 v l := by
  obtain ⟨g, e, hc⟩ := h
  exact ⟨g, e, Kd.C_below hc hb⟩
set_option maxHeartbeats 8000000 in
set_option maxRecDepth 100000 in
theorem assayerlaw0_Twin.calls (A0 : Option Addr) (c0 : Nat) (l0 : List Int) (r : List Int) (w : World) (hr0 : Kd.C (Kd.int .u8) w A0 l0.length l0) (hc0 : l0.length ≤ c0) (h : assayerlaw0_Twin.f l0 = some r) :
    Calls Try.prog 15 #[.slice A0 l0.length c0] w fun e w' => ∃ v0_ : Value, e = .returned (v0_) ∧ Kd.R (Kd.int .u8) 5 w' w.heap.size (fun _ => True) v0_ r ∧ Below w.heap.size w w' ∧ assayerlaw0_Twin.Whole w' v0_ r := by
  unfold assayerlaw0_Twin.f at h
  by_cases c : l0.length ≤ 1000
  · rw [if_pos c] at h
    obtain rfl := Option.some.inj h
    clear h
    have i5 : (Try.prog.info? 5).map (fun i => (i.zero, i.size, i.bytes)) = some (some (.int .u8 0), 1, 1) := by kernel_rfl
    have HR0 := Aside0.mk hr0
    have e5 : wrap64 ((l0.length : Int) + 5) = ((l0.length + 5 : Nat) : Int) := by unfold wrap64; omega
    have b1 : decide (0 ≤ (l0.length : Int)) = true := decide_eq_true (by omega)
    have b2 : decide ((l0.length : Int) ≤ ((l0.length + 5 : Nat) : Int)) = true := decide_eq_true (by omega)
    clear hr0
    go_enter Try.func15, Try.ntmps15
    go_wp2_with (first
      | ((with_reducible refine gate_dst (N := 7) rfl ?_); refine assayerlaw0_Twin.make0 rfl 24 5 _ _ rfl (l0.length + 5) rfl (by first | rfl | (simp only [e5]; rfl) | (show _ = _; rw [← e5]; rfl)) Try.underlying24 i5 (by omega) w.heap.size (Nat.le_refl _) ?_; intro w1 ho hg; have HO := Aside0.mk ho; have HB := Aside0.mk ((Below.refl w.heap.size w).grown hg (Nat.le_refl _) (fun k hk => by cases hk)); clear ho hg)
      | ((with_reducible refine gate_builtin (b := .append) (xs := #[.tmp 8, .tmp 9]) rfl ?_); refine assayerlaw0_Twin.app0 rfl (.tmp 8) (.tmp 9) 24 5 rfl Try.underlying24 i5 w.heap.size w.heap.size 0 (l0.length + 5) [] rfl HO.out A0 l0.length c0 l0 rfl (Kd.C_below HR0.out HB.out) (by omega) l0.length (Nat.zero_add _) ?_; intro w2 ho hg; have n0_ := Aside0.mk ho; have n1_ := Aside0.mk (HB.out.grown hg (below_size HB.out) (fun k hk => by injection hk with hk; omega)); clear HO HB ho hg; have HO := n0_; have HB := n1_; clear n0_ n1_)
      | (at_builtin; refine assayerlaw0_Twin.app1 rfl (.tmp 10) (.const (.string ⟨#[115, 112, 97, 114, 101]⟩)) 24 9 5 rfl Try.underlying24 Try.underlying9 i5 w.heap.size w.heap.size l0.length (l0.length + 5) l0 rfl HO.out ⟨#[115, 112, 97, 114, 101]⟩ rfl (by omega) (Nat.le_refl _) (l0.length + 5) rfl ?_; intro w3 ho hg; have n0_ := Aside0.mk ho; have n1_ := Aside0.mk (HB.out.grown hg (below_size HB.out) (fun k hk => by injection hk with hk; omega)); clear HO HB ho hg; have HO := n0_; have HB := n1_; clear n0_ n1_))
    go_ret
    have hb5 : bytesOf (⟨#[115, 112, 97, 114, 101]⟩ : ByteArray) = [115, 112, 97, 114, 101] := by rfl
    have ho := HO.out
    rw [hb5] at ho
    have hwl : Kd.C (Kd.int .u8) w3 (some ⟨w.heap.size, 0, none⟩) (l0 ++ [115, 112, 97, 114, 101]).length (l0 ++ [115, 112, 97, 114, 101]) := by
      have h1 : w3.ownsRow w.heap.size 5 1 (.slice (some ⟨w.heap.size, 0, none⟩) (l0 ++ [115, 112, 97, 114, 101]).length (l0.length + 5)) (l0 ++ [115, 112, 97, 114, 101]).length (nums .u8 (l0 ++ [115, 112, 97, 114, 101])) := by
        rw [List.length_append]; exact ho
      exact Kd.C_of_reads (enc := Value.int .u8) (d := (0 : Int)) (h1 := fun _ => rfl) (own_reads' h1)
    refine ⟨_, rfl, Kd.R_of_own (enc := Value.int .u8) (h1 := fun _ => rfl) ?_ (fun _ _ => trivial), HB.out, ⟨_, rfl, hwl⟩⟩
    obtain ⟨h1, h2⟩ := ho
    rcases h2 with ⟨h3, _⟩ | ⟨g, cap, cur, hv, hbg, hh, hn, hm, hs, ht⟩
    · cases h3
    · cases hv
      refine ⟨by simp [encs], .inr ⟨_, _, cur, rfl, hbg, hh, by omega, hm, hs, ?_⟩⟩
      have : cur.toList.take (l0.length * 1) = (nums .u8 (l0 ++ [115, 112, 97, 114, 101])).take (l0.length * 1) := by
        rw [← ht, List.take_take, Nat.min_eq_left (by omega)]
      rw [this, nums_append, Nat.mul_one, List.take_left' (by simp [nums])]
      rfl
  · rw [if_neg c] at h
    cases h

end Go.Proofs.Ythgimjbmjeidpaa.PZig
