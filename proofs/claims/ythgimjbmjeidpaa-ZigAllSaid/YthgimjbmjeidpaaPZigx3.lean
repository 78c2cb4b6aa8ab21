-- Written by xprint.py, a program of this session, out of the translation, by way of the kit's printer. Lean checks it.
import Derived.Test.YthgimjbmjeidpaaPZigx0
import Derived.Test.YthgimjbmjeidpaaPZigx1
import Derived.Test.YthgimjbmjeidpaaPZigx2
namespace Go.Proofs.Ythgimjbmjeidpaa.PZig
open Go.RowKit Go.Proofs.YthgimjbmjeidpaaW.PrintWords Go.Proofs.YthgimjbmjeidpaaW.PrintLast Go.Proofs.YthgimjbmjeidpaaW.PrintMore
attribute [local go_sem] max2_int min2_int max_two min_two max_three min_three max_four min_four   -- for this text's walks alone
set_option linter.unusedVariables false
set_option linter.unusedSimpArgs false

/-! ### zig_Put: function 26 -/
def zig_Put.l0 : Nat → Int → List Int → Option (List Int)
  | 0, _, _ => none
  | k + 1, x1, x5 => if x1 > 127 then (if x5.length < 140737488355328 then (zig_Put.l0 k (x1 / 128) (x5 ++ [Go.bits .or .u8 ((x1) % 256) 128])) else (none)) else (if x5.length < 140737488355328 then (some (x5 ++ [(x1) % 256])) else (none))
def zig_Put.f (k : Nat) (l0 : List Int) (a1 : Int) : Option (List Int) := (slices_Clone_byte_byte.f l0).bind fun t102 => (zig_Put.l0 k a1 t102)
theorem zig_Put.mono_l : ∀ k, (∀ y0 y1, LeO (zig_Put.l0 k y0 y1) (zig_Put.l0 (k + 1) y0 y1))
  | 0 => fun _ _ r h => by simp [zig_Put.l0] at h
  | k + 1 => by
    have ih0 := zig_Put.mono_l k
    · intro y0 y1
      unfold zig_Put.l0
      repeat' first
      | (with_reducible exact ih0 _ _)
      | (with_reducible exact LeO.refl _)
      | (with_reducible exact LeO.none _)
      | (with_reducible refine LeO.ite ?_ ?_)
      | (with_reducible refine LeO.bind ?_ (fun _ => ?_))
      | exact ih0 _ _
      | exact LeO.none _
      | refine LeO.ite ?_ ?_
      | refine LeO.bind ?_ (fun _ => ?_)
theorem zig_Put.mono : ∀ a0 a1 k, LeO (zig_Put.f k a0 a1) (zig_Put.f (k + 1) a0 a1) := by
  intro a0 a1 k
  have ih0 := zig_Put.mono_l k
  unfold zig_Put.f
  repeat' first
      | (with_reducible exact ih0 _ _)
      | (with_reducible exact LeO.refl _)
      | (with_reducible exact LeO.none _)
      | (with_reducible refine LeO.ite ?_ ?_)
      | (with_reducible refine LeO.bind ?_ (fun _ => ?_))
      | exact ih0 _ _
      | exact LeO.none _
      | refine LeO.ite ?_ ?_
      | refine LeO.bind ?_ (fun _ => ?_)
set_option maxHeartbeats 8000000 in
set_option maxRecDepth 100000 in
theorem zig_Put.calls (k : Nat) (A0 : Option Addr) (c0 : Nat) (l0 : List Int) (a1 : Int) (r : List Int) (w : World) (hr0 : Kd.C (Kd.int .u8) w A0 l0.length l0) (hc0 : l0.length ≤ c0) (h : zig_Put.f k l0 a1 = some r) :
    Calls Try.prog 26 #[.slice A0 l0.length c0, .int .u64 a1] w fun e w' => ∃ v0_ : Value, e = .returned (v0_) ∧ Kd.R (Kd.int .u8) 5 w' w.heap.size (fun _ => True) v0_ r ∧ Below w.heap.size w w' := by
  have HR0 := Aside0.mk hr0
  have HC0 := Aside0.mk hc0
  clear hr0 hc0
  have HB := Aside0.mk (Below.refl w.heap.size w)
  have H : ((slices_Clone_byte_byte.f l0).bind fun t102 => (zig_Put.l0 k a1 t102)) = some r := h
  clear h
  replace H := Option.bind_eq_some_iff.mp H
  obtain ⟨t102, A30, H⟩ := H
  replace H : (zig_Put.l0 k a1 t102) = some r := H
  have A3 := Aside0.mk A30
  clear A30
  have H' := Aside0.mk H
  clear H
  go_enter Try.func26, Try.ntmps26
  go_wp2_with (first | ((with_reducible refine gate_callee (f := 44) rfl ?_); refine goesL_ (some 7) rfl rfl Try.func44 (by kernel_rfl) rfl #[.slice A0 l0.length c0] rfl (by (try simp only [List.map_toArray, List.map_cons, List.map_nil]); first | done | rfl | (simp only [List.length_drop, List.length_take]; rfl)) ?_; (with_reducible refine (slices_Clone_byte_byte.calls _ _ l0 t102 _ ?side1 ?side2 A3.out).mono ?_); (case side1 => repeat (first | exact HR0.out | (with_reducible refine Kd.C_alloc ?_ _) | (with_reducible refine Kd.C_drewN ?_ _) | (with_reducible refine Kd.C_drew ?_))); (case side2 => exact HC0.out); rintro e w4 ⟨v103, rfl, ho0, hb⟩; refine ⟨_, rfl, ?_⟩; have n0_ := Aside0.mk (Kd.R_lower ho0 (below_size (by repeat (first | (with_reducible first | exact HB.out | apply below_alloc | apply pw_below_drewN | apply below_drew1) | exact HB.out)))); have n1_ := Aside0.mk (below_step (by repeat (first | (with_reducible first | exact HB.out | apply below_alloc | apply pw_below_drewN | apply below_drew1) | exact HB.out)) hb); clear HB; have HO104 := n0_; have HB := n1_; clear n0_ n1_; (try clear hb); (try clear hb2); (try clear hk); (try clear hi); (try clear ho0)))
  go_loopg [1, 5] k (fun kq v1 v5 w' => ∃ (x1_1 : Int) (x5_1 : List Int), v1 = .int .u64 x1_1 ∧ Aside0 (zig_Put.l0 kq x1_1 x5_1 = some r) ∧ Aside0 (kq ≤ k) ∧ Aside0 (Kd.R (Kd.int .u8) 5 w' w.heap.size (fun _ => True) v5 x5_1) ∧ Aside0 (Below w.heap.size w w'))
  case atStart => exact ⟨(a1), (t102), (by first | rfl | (simp; done) | (simp [*]; done)), H', ⟨Nat.le_refl _⟩, ⟨by (with_reducible repeat (first | apply Kd.R_alloc | apply Kd.R_drewN | apply Kd.R_drew)); exact HO104.out⟩, ⟨by repeat (first | (with_reducible first | exact HB.out | apply below_alloc | apply pw_below_drewN | apply below_drew1) | exact HB.out)⟩⟩
  case round =>
    clear H'
    try clear c2
    try clear p2
    try clear c4
    obtain ⟨x1_1, x5_1, rfl, HA, HK1, HO_5, HB⟩ := hrel
    cases gk with
    | zero => exact absurd HA.out (by simp [zig_Put.l0])
    | succ k1 =>
      have H := HA.out
      clear HA
      simp only [zig_Put.l0] at H
      by_cases c5 : x1_1 > 127
      · rw [if_pos c5] at H
        have c5b0 : decide (127 < x1_1) = true := decide_eq_true c5
        clear c5
        by_cases c6 : x5_1.length < 140737488355328
        · rw [if_pos c6] at H
          have LMc6 := Aside0.mk c6
          clear c6
          obtain ⟨y105, hy105⟩ : ∃ y_ : List Int, y_ = (x5_1 ++ [Go.bits .or .u8 ((x1_1) % 256) 128]) := ⟨_, rfl⟩
          replace H : (zig_Put.l0 k1 (x1_1 / 128) y105) = some r := by first | (rw [hy105]; with_reducible exact H) | (have H2_ := (Option.bind_some _ _).symm.trans H; rw [hy105]; with_reducible exact H2_) | (have H2_ := (Option.bind_some _ _).symm.trans H; with_reducible exact H2_) | with_reducible exact H | (rw [hy105]; exact H) | exact H
          have Ny105 := Aside0.mk hy105
          clear hy105
          have H' := Aside0.mk H
          clear H
          go_wp2_with (first | ((with_reducible refine gate_builtin (b := .append) (xs := #[.tmp 10, .tmp 14]) rfl ?_); at_builtin; refine Kd.R_append (Kd.int .u8) (w0 := w) w.heap.size rfl (.tmp 10) (.tmp 14) 24 5 (.int .u8 0) 1 rfl Try.underlying24 info5 rfl (by decide) (by omega) u5 x5_1 (Go.bits .or .u8 ((x1_1) % 256) 128) [.int .u8 (Go.bits .or .u8 ((x1_1) % 256) 128)] (fun _ => True) (fun _ => False) rfl rfl ?aP (fun _ hk => hk.elim) ?aF ?aO ?aB ?aS ?aL ?_; (case aP => exact rfl); (case aB => exact (by repeat (first | (with_reducible first | exact HB.out | apply below_alloc | apply pw_below_drewN | apply below_drew1) | exact HB.out))); (case aF => exact (fun _ _ => trivial)); (case aO => exact (by (with_reducible repeat (first | apply Kd.R_alloc | apply Kd.R_drewN | apply Kd.R_drew)); exact HO_5.out)); (case aS => exact (below_size (by repeat (first | (with_reducible first | exact HB.out | apply below_alloc | apply pw_below_drewN | apply below_drew1) | exact HB.out)))); (case aL => have := LMc6.out; omega); intro v106 w7 ho hb hg hat; rw [← Ny105.out] at ho; have n0_ := Aside0.mk (hb); have n1_ := Aside0.mk (ho); clear HB; clear HO_5; have HB := n0_; have HO107 := n1_; clear n0_ n1_; clear ho hb hg hat))
          go_roundg k1
          case measure => have := HK1.out; omega
          case rel => exact ⟨(x1_1 / 128), (y105), (by first | rfl | (simp; done) | (simp [*]; done)), H', ⟨by have := HK1.out; omega⟩, ⟨by (with_reducible repeat (first | apply Kd.R_alloc | apply Kd.R_drewN | apply Kd.R_drew)); exact HO107.out⟩, ⟨by repeat (first | (with_reducible first | exact HB.out | apply below_alloc | apply pw_below_drewN | apply below_drew1) | exact HB.out)⟩⟩
        · rw [if_neg c6] at H
          exact absurd H (by simp)
      · rw [if_neg c5] at H
        have c5b0 : decide (127 < x1_1) = false := decide_eq_false c5
        clear c5
        by_cases c8 : x5_1.length < 140737488355328
        · rw [if_pos c8] at H
          have LMc8 := Aside0.mk c8
          clear c8
          obtain ⟨y108, hy108⟩ : ∃ y_ : List Int, y_ = (x5_1 ++ [(x1_1) % 256]) := ⟨_, rfl⟩
          replace H : (some y108) = some r := by first | (rw [hy108]; with_reducible exact H) | (have H2_ := (Option.bind_some _ _).symm.trans H; rw [hy108]; with_reducible exact H2_) | (have H2_ := (Option.bind_some _ _).symm.trans H; with_reducible exact H2_) | with_reducible exact H | (rw [hy108]; exact H) | exact H
          have Ny108 := Aside0.mk hy108
          clear hy108
          obtain rfl := Option.some.inj H
          go_wp2_with (first | ((with_reducible refine gate_builtin (b := .append) (xs := #[.tmp 18, .tmp 21]) rfl ?_); at_builtin; refine Kd.R_append (Kd.int .u8) (w0 := w) w.heap.size rfl (.tmp 18) (.tmp 21) 24 5 (.int .u8 0) 1 rfl Try.underlying24 info5 rfl (by decide) (by omega) u5 x5_1 ((x1_1) % 256) [.int .u8 ((x1_1) % 256)] (fun _ => True) (fun _ => False) rfl rfl ?aP (fun _ hk => hk.elim) ?aF ?aO ?aB ?aS ?aL ?_; (case aP => exact rfl); (case aB => exact (by repeat (first | (with_reducible first | exact HB.out | apply below_alloc | apply pw_below_drewN | apply below_drew1) | exact HB.out))); (case aF => exact (fun _ _ => trivial)); (case aO => exact (by (with_reducible repeat (first | apply Kd.R_alloc | apply Kd.R_drewN | apply Kd.R_drew)); exact HO_5.out)); (case aS => exact (below_size (by repeat (first | (with_reducible first | exact HB.out | apply below_alloc | apply pw_below_drewN | apply below_drew1) | exact HB.out)))); (case aL => have := LMc8.out; omega); intro v109 w9 ho hb hg hat; rw [← Ny108.out] at ho; have n0_ := Aside0.mk (hb); have n1_ := Aside0.mk (ho); clear HB; clear HO_5; have HB := n0_; have HO110 := n1_; clear n0_ n1_; clear ho hb hg hat))
          go_ret
          exact ⟨_, by first | rfl | (simp [errW_none, errW_some] <;> rfl) | (simp [*, errW_none, errW_some] <;> rfl), by (with_reducible repeat (first | apply Kd.R_alloc | apply Kd.R_drewN | apply Kd.R_drew)); exact HO110.out, by repeat (first | (with_reducible first | exact HB.out | apply below_alloc | apply pw_below_drewN | apply below_drew1) | exact HB.out)⟩
        · rw [if_neg c8] at H
          exact absurd H (by simp)

/-! ### assayerlaw2_begun: function 14 -/
def assayerlaw2_begun.f (k : Nat)  : Option (Bool) := (zig_Take.f k (([128, 1] : List Int)) 32).bind fun bt114 => ((zig_Zig32.f (-1)).bind fun t117 => (if t117 = 1 then ((zig_Zag32.f 2).bind fun t118 => (if t118 = 1 then ((zig_Zig64.f (-2)).bind fun t119 => (if t119 = 3 then ((zig_Zag64.f 3).bind fun t120 => (if t120 = (-2) then (if bt114.2.2 = 0 then (if bt114.1 = 128 then (if bt114.2.1 = 2 then ((zig_Put.f k ([] : List Int) 128).bind fun t121 => (some ((strOfNums t121).toList == ([128, 1] : List UInt8)))) else (some false)) else (some false)) else (some false)) else (some false))) else (some false))) else (some false))) else (some false)))
theorem assayerlaw2_begun.mono : ∀ k, LeO (assayerlaw2_begun.f k ) (assayerlaw2_begun.f (k + 1) ) := by
  intro  k
  unfold assayerlaw2_begun.f
  repeat' first
      | (with_reducible exact zig_Put.mono _ _ _)
      | (with_reducible exact zig_Take.mono _ _ _)
      | (with_reducible exact LeO.refl _)
      | (with_reducible exact LeO.none _)
      | (with_reducible refine LeO.ite ?_ ?_)
      | (with_reducible refine LeO.bind ?_ (fun _ => ?_))
      | exact zig_Put.mono _ _ _
      | exact zig_Take.mono _ _ _
      | exact LeO.none _
      | refine LeO.ite ?_ ?_
      | refine LeO.bind ?_ (fun _ => ?_)
set_option maxHeartbeats 8000000 in
set_option maxRecDepth 100000 in
theorem assayerlaw2_begun.calls (k : Nat)  (r : Bool) (w : World) (h : assayerlaw2_begun.f k  = some r) (hrt : r = true) :
    Calls Try.prog 14 #[] w fun e w' => e = .returned (.bool r) ∧ Below w.heap.size w w' := by
  have HB := Aside0.mk (Below.refl w.heap.size w)
  have H : ((zig_Take.f k (([128, 1] : List Int)) 32).bind fun bt114 => ((zig_Zig32.f (-1)).bind fun t117 => (if t117 = 1 then ((zig_Zag32.f 2).bind fun t118 => (if t118 = 1 then ((zig_Zig64.f (-2)).bind fun t119 => (if t119 = 3 then ((zig_Zag64.f 3).bind fun t120 => (if t120 = (-2) then (if bt114.2.2 = 0 then (if bt114.1 = 128 then (if bt114.2.1 = 2 then ((zig_Put.f k ([] : List Int) 128).bind fun t121 => (some ((strOfNums t121).toList == ([128, 1] : List UInt8)))) else (some false)) else (some false)) else (some false)) else (some false))) else (some false))) else (some false))) else (some false)))) = some r := h
  clear h
  obtain ⟨y111, hy111⟩ : ∃ y_ : List Int, y_ = (([128, 1] : List Int)) := ⟨_, rfl⟩
  replace H : ((zig_Take.f k y111 32).bind fun bt114 => ((zig_Zig32.f (-1)).bind fun t117 => (if t117 = 1 then ((zig_Zag32.f 2).bind fun t118 => (if t118 = 1 then ((zig_Zig64.f (-2)).bind fun t119 => (if t119 = 3 then ((zig_Zag64.f 3).bind fun t120 => (if t120 = (-2) then (if bt114.2.2 = 0 then (if bt114.1 = 128 then (if bt114.2.1 = 2 then ((zig_Put.f k ([] : List Int) 128).bind fun t121 => (some ((strOfNums t121).toList == ([128, 1] : List UInt8)))) else (some false)) else (some false)) else (some false)) else (some false))) else (some false))) else (some false))) else (some false)))) = some r := by first | (rw [hy111]; with_reducible exact H) | (have H2_ := (Option.bind_some _ _).symm.trans H; rw [hy111]; with_reducible exact H2_) | (have H2_ := (Option.bind_some _ _).symm.trans H; with_reducible exact H2_) | with_reducible exact H | (rw [hy111]; exact H) | exact H
  have Ny111 := Aside0.mk hy111
  clear hy111
  replace H := Option.bind_eq_some_iff.mp H
  obtain ⟨⟨t114, t115, t116⟩, A10, H⟩ := H
  replace H : ((zig_Zig32.f (-1)).bind fun t117 => (if t117 = 1 then ((zig_Zag32.f 2).bind fun t118 => (if t118 = 1 then ((zig_Zig64.f (-2)).bind fun t119 => (if t119 = 3 then ((zig_Zag64.f 3).bind fun t120 => (if t120 = (-2) then (if t116 = 0 then (if t114 = 128 then (if t115 = 2 then ((zig_Put.f k ([] : List Int) 128).bind fun t121 => (some ((strOfNums t121).toList == ([128, 1] : List UInt8)))) else (some false)) else (some false)) else (some false)) else (some false))) else (some false))) else (some false))) else (some false))) = some r := H
  have A1 := Aside0.mk A10
  clear A10
  replace H := Option.bind_eq_some_iff.mp H
  obtain ⟨t117, A20, H⟩ := H
  replace H : (if t117 = 1 then ((zig_Zag32.f 2).bind fun t118 => (if t118 = 1 then ((zig_Zig64.f (-2)).bind fun t119 => (if t119 = 3 then ((zig_Zag64.f 3).bind fun t120 => (if t120 = (-2) then (if t116 = 0 then (if t114 = 128 then (if t115 = 2 then ((zig_Put.f k ([] : List Int) 128).bind fun t121 => (some ((strOfNums t121).toList == ([128, 1] : List UInt8)))) else (some false)) else (some false)) else (some false)) else (some false))) else (some false))) else (some false))) else (some false)) = some r := H
  have A2 := Aside0.mk A20
  clear A20
  by_cases c3 : t117 = 1
  · rw [if_pos c3] at H
    have c3b0 : (t117 == 1) = true := beq_iff_eq.mpr c3
    have c3b1 : (t117 != 1) = false := bne_eq_false_iff_eq.mpr c3
    clear c3
    replace H := Option.bind_eq_some_iff.mp H
    obtain ⟨t118, A40, H⟩ := H
    replace H : (if t118 = 1 then ((zig_Zig64.f (-2)).bind fun t119 => (if t119 = 3 then ((zig_Zag64.f 3).bind fun t120 => (if t120 = (-2) then (if t116 = 0 then (if t114 = 128 then (if t115 = 2 then ((zig_Put.f k ([] : List Int) 128).bind fun t121 => (some ((strOfNums t121).toList == ([128, 1] : List UInt8)))) else (some false)) else (some false)) else (some false)) else (some false))) else (some false))) else (some false)) = some r := H
    have A4 := Aside0.mk A40
    clear A40
    by_cases c5 : t118 = 1
    · rw [if_pos c5] at H
      have c5b0 : (t118 == 1) = true := beq_iff_eq.mpr c5
      have c5b1 : (t118 != 1) = false := bne_eq_false_iff_eq.mpr c5
      clear c5
      replace H := Option.bind_eq_some_iff.mp H
      obtain ⟨t119, A60, H⟩ := H
      replace H : (if t119 = 3 then ((zig_Zag64.f 3).bind fun t120 => (if t120 = (-2) then (if t116 = 0 then (if t114 = 128 then (if t115 = 2 then ((zig_Put.f k ([] : List Int) 128).bind fun t121 => (some ((strOfNums t121).toList == ([128, 1] : List UInt8)))) else (some false)) else (some false)) else (some false)) else (some false))) else (some false)) = some r := H
      have A6 := Aside0.mk A60
      clear A60
      by_cases c7 : t119 = 3
      · rw [if_pos c7] at H
        have c7b0 : (t119 == 3) = true := beq_iff_eq.mpr c7
        have c7b1 : (t119 != 3) = false := bne_eq_false_iff_eq.mpr c7
        clear c7
        replace H := Option.bind_eq_some_iff.mp H
        obtain ⟨t120, A80, H⟩ := H
        replace H : (if t120 = (-2) then (if t116 = 0 then (if t114 = 128 then (if t115 = 2 then ((zig_Put.f k ([] : List Int) 128).bind fun t121 => (some ((strOfNums t121).toList == ([128, 1] : List UInt8)))) else (some false)) else (some false)) else (some false)) else (some false)) = some r := H
        have A8 := Aside0.mk A80
        clear A80
        by_cases c9 : t120 = (-2)
        · rw [if_pos c9] at H
          have c9b0 : (t120 == (-2)) = true := beq_iff_eq.mpr c9
          have c9b1 : (t120 != (-2)) = false := bne_eq_false_iff_eq.mpr c9
          clear c9
          by_cases c10 : t116 = 0
          · rw [if_pos c10] at H
            have c10b0 : (t116 == 0) = true := beq_iff_eq.mpr c10
            have c10b1 : (t116 != 0) = false := bne_eq_false_iff_eq.mpr c10
            clear c10
            by_cases c11 : t114 = 128
            · rw [if_pos c11] at H
              have c11b0 : (t114 == 128) = true := beq_iff_eq.mpr c11
              have c11b1 : (t114 != 128) = false := bne_eq_false_iff_eq.mpr c11
              clear c11
              by_cases c12 : t115 = 2
              · rw [if_pos c12] at H
                have c12b0 : (t115 == 2) = true := beq_iff_eq.mpr c12
                have c12b1 : (t115 != 2) = false := bne_eq_false_iff_eq.mpr c12
                clear c12
                replace H := Option.bind_eq_some_iff.mp H
                obtain ⟨t121, A130, H⟩ := H
                replace H : (some ((strOfNums t121).toList == ([128, 1] : List UInt8))) = some r := H
                have A13 := Aside0.mk A130
                clear A130
                obtain rfl := Option.some.inj H
                go_enter Try.func14, Try.ntmps14
                go_wp2_with (first | ((with_reducible refine gate_dst (N := 5) rfl ?_); refine Kd.R_lit (Kd.int .u8) _ 5 ?hg (N := 5) ?hd (xs := ([128, 1] : List Int)) (inner := [.int .u8 128, .int .u8 1]) (ok := fun _ => True) (okp := fun _ => True) ?hr ?hp (fun _ hk => hk) trivial (Below.refl _ _) (Nat.le_refl _) (by simp) ?_; (case hd => rfl); (case hg => rfl); (case hr => first | (go_simp; done) | (go_simp; rfl)); (case hp => exact (Reps.one (show Kd.M (Kd.int .u8) _ _ _ 128 [.int .u8 128] from rfl) (Reps.one (show Kd.M (Kd.int .u8) _ _ _ 1 [.int .u8 1] from rfl) (Reps.none _ _)))); intro v112 w14 ho15 hb hg_ hnew_; clear hg_ hnew_; (first | rw [← Ny111.out] at ho15 | (simp only [Int.reduceToNat] at ho15; rw [← Ny111.out] at ho15)); have n0_ := Aside0.mk (Kd.R_lower ho15 (below_size (by repeat (first | (with_reducible first | exact HB.out | apply below_alloc | apply pw_below_drewN | apply below_drew1) | exact HB.out)))); have n1_ := Aside0.mk (below_step (by repeat (first | (with_reducible first | exact HB.out | apply below_alloc | apply pw_below_drewN | apply below_drew1) | exact HB.out)) hb); clear HB; have HO113 := n0_; have HB := n1_; clear n0_ n1_; clear hb ho15; obtain ⟨Ao16, co16, eo16⟩ := Kd.R_slice HO113.out; subst eo16) | ((with_reducible refine gate_callee (f := 16) rfl ?_); refine goesL_ (some 6) rfl rfl Try.func16 (by kernel_rfl) rfl #[.slice Ao16 y111.length co16, .int .i64 32] rfl (by (try simp only [List.map_toArray, List.map_cons, List.map_nil]); first | done | rfl | (simp only [List.length_drop, List.length_take]; rfl)) ?_; (with_reducible refine (zig_Take.calls k _ _ y111 32 t114 t115 t116 _ ?side1 ?side2 A1.out).mono ?_); (case side1 => repeat (first | exact (Kd.R_reads' HO113.out).2.2 | (with_reducible refine Kd.C_alloc ?_ _) | (with_reducible refine Kd.C_drewN ?_ _) | (with_reducible refine Kd.C_drew ?_))); (case side2 => exact (Kd.R_reads' HO113.out).2.1); rintro e w' ⟨rfl, ⟨nd, rfl⟩⟩; refine ⟨_, rfl, ?_⟩) | ((with_reducible refine gate_callee (f := 18) rfl ?_); refine goesL_ (some 10) rfl rfl Try.func18 (by kernel_rfl) rfl #[.int .i32 (-1)] rfl (by (try simp only [List.map_toArray, List.map_cons, List.map_nil]); first | done | rfl | (simp only [List.length_drop, List.length_take]; rfl)) ?_; (with_reducible refine (zig_Zig32.calls (-1) t117 _ A2.out).mono ?_); rintro e w' ⟨rfl, ⟨nd, rfl⟩⟩; refine ⟨_, rfl, ?_⟩) | (go_at_call 20; (with_reducible refine (zig_Zag32.calls 2 t118 _ A4.out).mono ?_); rintro e w' ⟨rfl, ⟨nd, rfl⟩⟩) | (go_at_call 22; (with_reducible refine (zig_Zig64.calls (-2) t119 _ A6.out).mono ?_); rintro e w' ⟨rfl, ⟨nd, rfl⟩⟩) | (go_at_call 24; (with_reducible refine (zig_Zag64.calls 3 t120 _ A8.out).mono ?_); rintro e w' ⟨rfl, ⟨nd, rfl⟩⟩) | (go_at_call 26; (refine (zig_Put.calls k _ _ ([] : List Int) 128 t121 _ ?side1 ?side2 A13.out).mono ?_); (case side1 => exact Kd.C_nil _ _); (case side2 => exact Nat.le_refl _); rintro e w17 ⟨v122, rfl, ho0, hb⟩; have n0_ := Aside0.mk (Kd.R_elder' (by (with_reducible repeat (first | apply Kd.R_alloc | apply Kd.R_drewN | apply Kd.R_drew)); exact HO113.out) (Kd.R_base ho0) hb); have n1_ := Aside0.mk (Kd.R_lower (Kd.R_new' ho0 (Kd.R_lt (by (with_reducible repeat (first | apply Kd.R_alloc | apply Kd.R_drewN | apply Kd.R_drew)); exact HO113.out))) (below_size (by repeat (first | (with_reducible first | exact HB.out | apply below_alloc | apply pw_below_drewN | apply below_drew1) | exact HB.out)))); have n2_ := Aside0.mk (below_step (by repeat (first | (with_reducible first | exact HB.out | apply below_alloc | apply pw_below_drewN | apply below_drew1) | exact HB.out)) hb); clear HO113; clear HB; have HO113 := n0_; have HO123 := n1_; have HB := n2_; clear n0_ n1_ n2_; (try clear hb); (try clear hb2); (try clear hk); (try clear hi); (try clear ho0); have hcv18 := own_string (P := Try.prog) Try.underlying24 Try.underlying5 Try.underlying9 (Kd.own_of_R HO123.out)))
                go_ret
                exact ⟨by first | rfl | (simp [errW_none, errW_some] <;> rfl) | (simp [*, errW_none, errW_some] <;> rfl), by repeat (first | (with_reducible first | exact HB.out | apply below_alloc | apply pw_below_drewN | apply below_drew1) | exact HB.out)⟩
              · rw [if_neg c12] at H
                have c12b0 : (t115 == 2) = false := beq_eq_false_iff_ne.mpr c12
                have c12b1 : (t115 != 2) = true := bne_iff_ne.mpr c12
                exact absurd (Option.some.inj H) (by rw [hrt]; decide)
            · rw [if_neg c11] at H
              have c11b0 : (t114 == 128) = false := beq_eq_false_iff_ne.mpr c11
              have c11b1 : (t114 != 128) = true := bne_iff_ne.mpr c11
              exact absurd (Option.some.inj H) (by rw [hrt]; decide)
          · rw [if_neg c10] at H
            have c10b0 : (t116 == 0) = false := beq_eq_false_iff_ne.mpr c10
            have c10b1 : (t116 != 0) = true := bne_iff_ne.mpr c10
            exact absurd (Option.some.inj H) (by rw [hrt]; decide)
        · rw [if_neg c9] at H
          have c9b0 : (t120 == (-2)) = false := beq_eq_false_iff_ne.mpr c9
          have c9b1 : (t120 != (-2)) = true := bne_iff_ne.mpr c9
          exact absurd (Option.some.inj H) (by rw [hrt]; decide)
      · rw [if_neg c7] at H
        have c7b0 : (t119 == 3) = false := beq_eq_false_iff_ne.mpr c7
        have c7b1 : (t119 != 3) = true := bne_iff_ne.mpr c7
        exact absurd (Option.some.inj H) (by rw [hrt]; decide)
    · rw [if_neg c5] at H
      have c5b0 : (t118 == 1) = false := beq_eq_false_iff_ne.mpr c5
      have c5b1 : (t118 != 1) = true := bne_iff_ne.mpr c5
      exact absurd (Option.some.inj H) (by rw [hrt]; decide)
  · rw [if_neg c3] at H
    have c3b0 : (t117 == 1) = false := beq_eq_false_iff_ne.mpr c3
    have c3b1 : (t117 != 1) = true := bne_iff_ne.mpr c3
    exact absurd (Option.some.inj H) (by rw [hrt]; decide)

/-! ### assayerlaw0_Place: function 29 -/
def assayerlaw0_Place.f (a0 : Int) (a1 : Int) : Option (Int) := if a1 ≤ 0 then (some 0) else (if a1 = 0 then (none) else (some (Int.tmod (wrap64 ((Int.tmod a0 a1) + a1)) a1)))
set_option maxHeartbeats 8000000 in
set_option maxRecDepth 100000 in
theorem assayerlaw0_Place.calls (a0 : Int) (a1 : Int) (r : Int) (w : World) (h : assayerlaw0_Place.f a0 a1 = some r) :
    Calls Try.prog 29 #[.int .i64 a0, .int .i64 a1] w fun e w' => e = .returned (.int .i64 r) ∧ Drawn0 w w' := by
  have H : (if a1 ≤ 0 then (some 0) else (if a1 = 0 then (none) else (some (Int.tmod (wrap64 ((Int.tmod a0 a1) + a1)) a1)))) = some r := h
  clear h
  by_cases c3 : a1 ≤ 0
  · rw [if_pos c3] at H
    have c3b0 : decide (a1 ≤ 0) = true := decide_eq_true c3
    clear c3
    obtain rfl := Option.some.inj H
    go_enter Try.func29, Try.ntmps29
    go_wp2
    go_ret
    exact ⟨by first | rfl | (simp; done) | (simp [*]; done) | (simp; omega), by repeat (first | exact Drawn0.refl _ | apply Drawn0.step)⟩
  · rw [if_neg c3] at H
    have c3b0 : decide (a1 ≤ 0) = false := decide_eq_false c3
    clear c3
    by_cases c4 : a1 = 0
    · rw [if_pos c4] at H
      exact absurd H (by simp)
    · rw [if_neg c4] at H
      have c4b0 : (a1 == 0) = false := beq_eq_false_iff_ne.mpr c4
      have c4b1 : (a1 != 0) = true := bne_iff_ne.mpr c4
      obtain rfl := Option.some.inj H
      go_enter Try.func29, Try.ntmps29
      go_wp2
      go_ret
      exact ⟨by first | rfl | (simp; done) | (simp [*]; done) | (simp; omega), by repeat (first | exact Drawn0.refl _ | apply Drawn0.step)⟩

/-! ### assayerlaw2_ZigTakes: function 5 -/
def assayerlaw2_ZigTakes.f (k : Nat) (a0 : Int) (a1 : Int) (l2 : List Int) (a3 : Int) : Option (Bool) := (assayerlaw2_begun.f k).bind fun t124 => (if t124 = true then (if (l2.length : Int) > 10 then (some true) else ((zig_Put.f k ([] : List Int) a0).bind fun t125 => ((some (([] : List Int) : List Int)).bind fun y128 => (if y128.length + t125.length < 140737488355328 then ((some (y128 ++ t125 : List Int)).bind fun y131 => (if y131.length + l2.length < 140737488355328 then ((zig_Take.f k (y131 ++ l2) (wrap64 (1 + (wrap64 (Int.tmod a1 64))))).bind fun bt137 => ((assayerlaw0_Place.f a3 (t125.length : Int)).bind fun t140 => (if 0 ≤ t140 then (if t140 ≤ (t125.length : Int) then ((zig_Take.f k (t125.take (t140 : Int).toNat) 64).bind fun bt145 => (if bt145.2.2 = 3 then (if (wrap64 (1 + (wrap64 (Int.tmod a1 64)))) < 64 then (if 0 ≤ (wrap64 (1 + (wrap64 (Int.tmod a1 64)))) then (if (shr .u64 a0 (wrap64 (1 + (wrap64 (Int.tmod a1 64))))) = 0 then (if bt137.2.2 = 0 then (if bt137.1 = a0 then (some (bt137.2.1 == (t125.length : Int))) else (some false)) else (some false)) else (if bt137.2.2 = 4 then (some (bt137.2.1 == 0)) else (some false))) else (none)) else (if bt137.2.2 = 0 then (if bt137.1 = a0 then (some (bt137.2.1 == (t125.length : Int))) else (some false)) else (some false))) else (some false))) else (none)) else (none)))) else (none))) else (none))))) else (some false))
theorem assayerlaw2_ZigTakes.mono : ∀ a0 a1 a2 a3 k, LeO (assayerlaw2_ZigTakes.f k a0 a1 a2 a3) (assayerlaw2_ZigTakes.f (k + 1) a0 a1 a2 a3) := by
  intro a0 a1 a2 a3 k
  unfold assayerlaw2_ZigTakes.f
  repeat' first
      | (with_reducible exact assayerlaw2_begun.mono _)
      | (with_reducible exact zig_Put.mono _ _ _)
      | (with_reducible exact zig_Take.mono _ _ _)
      | (with_reducible exact LeO.refl _)
      | (with_reducible exact LeO.none _)
      | (with_reducible refine LeO.ite ?_ ?_)
      | (with_reducible refine LeO.bind ?_ (fun _ => ?_))
      | exact assayerlaw2_begun.mono _
      | exact zig_Put.mono _ _ _
      | exact zig_Take.mono _ _ _
      | exact LeO.none _
      | refine LeO.ite ?_ ?_
      | refine LeO.bind ?_ (fun _ => ?_)
set_option maxHeartbeats 8000000 in
set_option maxRecDepth 100000 in
theorem assayerlaw2_ZigTakes.calls (k : Nat) (a0 : Int) (a1 : Int) (A2 : Option Addr) (c2 : Nat) (l2 : List Int) (a3 : Int) (r : Bool) (w : World) (hr2 : Kd.C (Kd.int .u8) w A2 l2.length l2) (hc2 : l2.length ≤ c2) (h : assayerlaw2_ZigTakes.f k a0 a1 l2 a3 = some r) (hrt : r = true) :
    Calls Try.prog 5 #[.int .u64 a0, .int .u8 a1, .slice A2 l2.length c2, .int .i64 a3] w fun e w' => e = .returned (.bool r) ∧ Below w.heap.size w w' := by
  have HR2 := Aside0.mk hr2
  have HC2 := Aside0.mk hc2
  clear hr2 hc2
  have HB := Aside0.mk (Below.refl w.heap.size w)
  have H : ((assayerlaw2_begun.f k).bind fun t124 => (if t124 = true then (if (l2.length : Int) > 10 then (some true) else ((zig_Put.f k ([] : List Int) a0).bind fun t125 => ((some (([] : List Int) : List Int)).bind fun y128 => (if y128.length + t125.length < 140737488355328 then ((some (y128 ++ t125 : List Int)).bind fun y131 => (if y131.length + l2.length < 140737488355328 then ((zig_Take.f k (y131 ++ l2) (wrap64 (1 + (wrap64 (Int.tmod a1 64))))).bind fun bt137 => ((assayerlaw0_Place.f a3 (t125.length : Int)).bind fun t140 => (if 0 ≤ t140 then (if t140 ≤ (t125.length : Int) then ((zig_Take.f k (t125.take (t140 : Int).toNat) 64).bind fun bt145 => (if bt145.2.2 = 3 then (if (wrap64 (1 + (wrap64 (Int.tmod a1 64)))) < 64 then (if 0 ≤ (wrap64 (1 + (wrap64 (Int.tmod a1 64)))) then (if (shr .u64 a0 (wrap64 (1 + (wrap64 (Int.tmod a1 64))))) = 0 then (if bt137.2.2 = 0 then (if bt137.1 = a0 then (some (bt137.2.1 == (t125.length : Int))) else (some false)) else (some false)) else (if bt137.2.2 = 4 then (some (bt137.2.1 == 0)) else (some false))) else (none)) else (if bt137.2.2 = 0 then (if bt137.1 = a0 then (some (bt137.2.1 == (t125.length : Int))) else (some false)) else (some false))) else (some false))) else (none)) else (none)))) else (none))) else (none))))) else (some false))) = some r := h
  clear h
  replace H := Option.bind_eq_some_iff.mp H
  obtain ⟨t124, A50, H⟩ := H
  replace H : (if t124 = true then (if (l2.length : Int) > 10 then (some true) else ((zig_Put.f k ([] : List Int) a0).bind fun t125 => ((some (([] : List Int) : List Int)).bind fun y128 => (if y128.length + t125.length < 140737488355328 then ((some (y128 ++ t125 : List Int)).bind fun y131 => (if y131.length + l2.length < 140737488355328 then ((zig_Take.f k (y131 ++ l2) (wrap64 (1 + (wrap64 (Int.tmod a1 64))))).bind fun bt137 => ((assayerlaw0_Place.f a3 (t125.length : Int)).bind fun t140 => (if 0 ≤ t140 then (if t140 ≤ (t125.length : Int) then ((zig_Take.f k (t125.take (t140 : Int).toNat) 64).bind fun bt145 => (if bt145.2.2 = 3 then (if (wrap64 (1 + (wrap64 (Int.tmod a1 64)))) < 64 then (if 0 ≤ (wrap64 (1 + (wrap64 (Int.tmod a1 64)))) then (if (shr .u64 a0 (wrap64 (1 + (wrap64 (Int.tmod a1 64))))) = 0 then (if bt137.2.2 = 0 then (if bt137.1 = a0 then (some (bt137.2.1 == (t125.length : Int))) else (some false)) else (some false)) else (if bt137.2.2 = 4 then (some (bt137.2.1 == 0)) else (some false))) else (none)) else (if bt137.2.2 = 0 then (if bt137.1 = a0 then (some (bt137.2.1 == (t125.length : Int))) else (some false)) else (some false))) else (some false))) else (none)) else (none)))) else (none))) else (none))))) else (some false)) = some r := H
  have A5 := Aside0.mk A50
  clear A50
  by_cases c6 : t124 = true
  · subst c6
    have H1 : (if (l2.length : Int) > 10 then (some true) else ((zig_Put.f k ([] : List Int) a0).bind fun t125 => ((some (([] : List Int) : List Int)).bind fun y128 => (if y128.length + t125.length < 140737488355328 then ((some (y128 ++ t125 : List Int)).bind fun y131 => (if y131.length + l2.length < 140737488355328 then ((zig_Take.f k (y131 ++ l2) (wrap64 (1 + (wrap64 (Int.tmod a1 64))))).bind fun bt137 => ((assayerlaw0_Place.f a3 (t125.length : Int)).bind fun t140 => (if 0 ≤ t140 then (if t140 ≤ (t125.length : Int) then ((zig_Take.f k (t125.take (t140 : Int).toNat) 64).bind fun bt145 => (if bt145.2.2 = 3 then (if (wrap64 (1 + (wrap64 (Int.tmod a1 64)))) < 64 then (if 0 ≤ (wrap64 (1 + (wrap64 (Int.tmod a1 64)))) then (if (shr .u64 a0 (wrap64 (1 + (wrap64 (Int.tmod a1 64))))) = 0 then (if bt137.2.2 = 0 then (if bt137.1 = a0 then (some (bt137.2.1 == (t125.length : Int))) else (some false)) else (some false)) else (if bt137.2.2 = 4 then (some (bt137.2.1 == 0)) else (some false))) else (none)) else (if bt137.2.2 = 0 then (if bt137.1 = a0 then (some (bt137.2.1 == (t125.length : Int))) else (some false)) else (some false))) else (some false))) else (none)) else (none)))) else (none))) else (none))))) = some r := by rw [if_pos rfl] at H; exact H
    clear H
    have H := H1
    clear H1
    by_cases c7 : (l2.length : Int) > 10
    · rw [if_pos c7] at H
      have c7b0 : decide (10 < (l2.length : Int)) = true := decide_eq_true c7
      have c7b1 : decide (10 < l2.length) = true := decide_eq_true (by omega)
      clear c7
      obtain rfl := Option.some.inj H
      go_enter Try.func5, Try.ntmps5
      go_wp2_with (first | ((with_reducible refine gate_callee (f := 14) rfl ?_); refine goesL_ (some 17) rfl rfl Try.func14 (by kernel_rfl) rfl #[] rfl (by (try simp only [List.map_toArray, List.map_cons, List.map_nil]); first | done | rfl | (simp only [List.length_drop, List.length_take]; rfl)) ?_; (with_reducible refine (assayerlaw2_begun.calls k  true _ A5.out rfl).mono ?_); rintro e w8 ⟨rfl, hb⟩; refine ⟨_, rfl, ?_⟩; have n0_ := Aside0.mk (below_step (by repeat (first | (with_reducible first | exact HB.out | apply below_alloc | apply pw_below_drewN | apply below_drew1) | exact HB.out)) hb); clear HB; have HB := n0_; clear n0_; (try clear hb); (try clear hb2); (try clear hk); (try clear hi)))
      go_ret
      exact ⟨by first | rfl | (simp [errW_none, errW_some] <;> rfl) | (simp [*, errW_none, errW_some] <;> rfl), by repeat (first | (with_reducible first | exact HB.out | apply below_alloc | apply pw_below_drewN | apply below_drew1) | exact HB.out)⟩
    · rw [if_neg c7] at H
      have c7b0 : decide (10 < (l2.length : Int)) = false := decide_eq_false c7
      have c7b1 : decide (10 < l2.length) = false := decide_eq_false (by omega)
      clear c7
      replace H := Option.bind_eq_some_iff.mp H
      obtain ⟨t125, A90, H⟩ := H
      replace H : ((some (([] : List Int) : List Int)).bind fun y128 => (if y128.length + t125.length < 140737488355328 then ((some (y128 ++ t125 : List Int)).bind fun y131 => (if y131.length + l2.length < 140737488355328 then ((zig_Take.f k (y131 ++ l2) (wrap64 (1 + (wrap64 (Int.tmod a1 64))))).bind fun bt137 => ((assayerlaw0_Place.f a3 (t125.length : Int)).bind fun t140 => (if 0 ≤ t140 then (if t140 ≤ (t125.length : Int) then ((zig_Take.f k (t125.take (t140 : Int).toNat) 64).bind fun bt145 => (if bt145.2.2 = 3 then (if (wrap64 (1 + (wrap64 (Int.tmod a1 64)))) < 64 then (if 0 ≤ (wrap64 (1 + (wrap64 (Int.tmod a1 64)))) then (if (shr .u64 a0 (wrap64 (1 + (wrap64 (Int.tmod a1 64))))) = 0 then (if bt137.2.2 = 0 then (if bt137.1 = a0 then (some (bt137.2.1 == (t125.length : Int))) else (some false)) else (some false)) else (if bt137.2.2 = 4 then (some (bt137.2.1 == 0)) else (some false))) else (none)) else (if bt137.2.2 = 0 then (if bt137.1 = a0 then (some (bt137.2.1 == (t125.length : Int))) else (some false)) else (some false))) else (some false))) else (none)) else (none)))) else (none))) else (none))) = some r := H
      have A9 := Aside0.mk A90
      clear A90
      obtain ⟨y128, hy128⟩ : ∃ y_ : List Int, y_ = (([] : List Int)) := ⟨_, rfl⟩
      replace H : (if y128.length + t125.length < 140737488355328 then ((some (y128 ++ t125 : List Int)).bind fun y131 => (if y131.length + l2.length < 140737488355328 then ((zig_Take.f k (y131 ++ l2) (wrap64 (1 + (wrap64 (Int.tmod a1 64))))).bind fun bt137 => ((assayerlaw0_Place.f a3 (t125.length : Int)).bind fun t140 => (if 0 ≤ t140 then (if t140 ≤ (t125.length : Int) then ((zig_Take.f k (t125.take (t140 : Int).toNat) 64).bind fun bt145 => (if bt145.2.2 = 3 then (if (wrap64 (1 + (wrap64 (Int.tmod a1 64)))) < 64 then (if 0 ≤ (wrap64 (1 + (wrap64 (Int.tmod a1 64)))) then (if (shr .u64 a0 (wrap64 (1 + (wrap64 (Int.tmod a1 64))))) = 0 then (if bt137.2.2 = 0 then (if bt137.1 = a0 then (some (bt137.2.1 == (t125.length : Int))) else (some false)) else (some false)) else (if bt137.2.2 = 4 then (some (bt137.2.1 == 0)) else (some false))) else (none)) else (if bt137.2.2 = 0 then (if bt137.1 = a0 then (some (bt137.2.1 == (t125.length : Int))) else (some false)) else (some false))) else (some false))) else (none)) else (none)))) else (none))) else (none)) = some r := by first | (rw [hy128]; with_reducible exact H) | (have H2_ := (Option.bind_some _ _).symm.trans H; rw [hy128]; with_reducible exact H2_) | (have H2_ := (Option.bind_some _ _).symm.trans H; with_reducible exact H2_) | with_reducible exact H | (rw [hy128]; exact H) | exact H
      have Ny128 := Aside0.mk hy128
      clear hy128
      by_cases c10 : y128.length + t125.length < 140737488355328
      · rw [if_pos c10] at H
        have LMc10 := Aside0.mk c10
        clear c10
        obtain ⟨y131, hy131⟩ : ∃ y_ : List Int, y_ = (y128 ++ t125) := ⟨_, rfl⟩
        replace H : (if y131.length + l2.length < 140737488355328 then ((zig_Take.f k (y131 ++ l2) (wrap64 (1 + (wrap64 (Int.tmod a1 64))))).bind fun bt137 => ((assayerlaw0_Place.f a3 (t125.length : Int)).bind fun t140 => (if 0 ≤ t140 then (if t140 ≤ (t125.length : Int) then ((zig_Take.f k (t125.take (t140 : Int).toNat) 64).bind fun bt145 => (if bt145.2.2 = 3 then (if (wrap64 (1 + (wrap64 (Int.tmod a1 64)))) < 64 then (if 0 ≤ (wrap64 (1 + (wrap64 (Int.tmod a1 64)))) then (if (shr .u64 a0 (wrap64 (1 + (wrap64 (Int.tmod a1 64))))) = 0 then (if bt137.2.2 = 0 then (if bt137.1 = a0 then (some (bt137.2.1 == (t125.length : Int))) else (some false)) else (some false)) else (if bt137.2.2 = 4 then (some (bt137.2.1 == 0)) else (some false))) else (none)) else (if bt137.2.2 = 0 then (if bt137.1 = a0 then (some (bt137.2.1 == (t125.length : Int))) else (some false)) else (some false))) else (some false))) else (none)) else (none)))) else (none)) = some r := by first | (rw [hy131]; with_reducible exact H) | (have H2_ := (Option.bind_some _ _).symm.trans H; rw [hy131]; with_reducible exact H2_) | (have H2_ := (Option.bind_some _ _).symm.trans H; with_reducible exact H2_) | with_reducible exact H | (rw [hy131]; exact H) | exact H
        have Ny131 := Aside0.mk hy131
        clear hy131
        by_cases c11 : y131.length + l2.length < 140737488355328
        · rw [if_pos c11] at H
          have LMc11 := Aside0.mk c11
          clear c11
          obtain ⟨y134, hy134⟩ : ∃ y_ : List Int, y_ = (y131 ++ l2) := ⟨_, rfl⟩
          replace H : ((zig_Take.f k y134 (wrap64 (1 + (wrap64 (Int.tmod a1 64))))).bind fun bt137 => ((assayerlaw0_Place.f a3 (t125.length : Int)).bind fun t140 => (if 0 ≤ t140 then (if t140 ≤ (t125.length : Int) then ((zig_Take.f k (t125.take (t140 : Int).toNat) 64).bind fun bt145 => (if bt145.2.2 = 3 then (if (wrap64 (1 + (wrap64 (Int.tmod a1 64)))) < 64 then (if 0 ≤ (wrap64 (1 + (wrap64 (Int.tmod a1 64)))) then (if (shr .u64 a0 (wrap64 (1 + (wrap64 (Int.tmod a1 64))))) = 0 then (if bt137.2.2 = 0 then (if bt137.1 = a0 then (some (bt137.2.1 == (t125.length : Int))) else (some false)) else (some false)) else (if bt137.2.2 = 4 then (some (bt137.2.1 == 0)) else (some false))) else (none)) else (if bt137.2.2 = 0 then (if bt137.1 = a0 then (some (bt137.2.1 == (t125.length : Int))) else (some false)) else (some false))) else (some false))) else (none)) else (none)))) = some r := by first | (rw [hy134]; with_reducible exact H) | (have H2_ := (Option.bind_some _ _).symm.trans H; rw [hy134]; with_reducible exact H2_) | (have H2_ := (Option.bind_some _ _).symm.trans H; with_reducible exact H2_) | with_reducible exact H | (rw [hy134]; exact H) | exact H
          have Ny134 := Aside0.mk hy134
          clear hy134
          replace H := Option.bind_eq_some_iff.mp H
          obtain ⟨⟨t137, t138, t139⟩, A120, H⟩ := H
          replace H : ((assayerlaw0_Place.f a3 (t125.length : Int)).bind fun t140 => (if 0 ≤ t140 then (if t140 ≤ (t125.length : Int) then ((zig_Take.f k (t125.take (t140 : Int).toNat) 64).bind fun bt145 => (if bt145.2.2 = 3 then (if (wrap64 (1 + (wrap64 (Int.tmod a1 64)))) < 64 then (if 0 ≤ (wrap64 (1 + (wrap64 (Int.tmod a1 64)))) then (if (shr .u64 a0 (wrap64 (1 + (wrap64 (Int.tmod a1 64))))) = 0 then (if t139 = 0 then (if t137 = a0 then (some (t138 == (t125.length : Int))) else (some false)) else (some false)) else (if t139 = 4 then (some (t138 == 0)) else (some false))) else (none)) else (if t139 = 0 then (if t137 = a0 then (some (t138 == (t125.length : Int))) else (some false)) else (some false))) else (some false))) else (none)) else (none))) = some r := H
          have A12 := Aside0.mk A120
          clear A120
          replace H := Option.bind_eq_some_iff.mp H
          obtain ⟨t140, A130, H⟩ := H
          replace H : (if 0 ≤ t140 then (if t140 ≤ (t125.length : Int) then ((zig_Take.f k (t125.take (t140 : Int).toNat) 64).bind fun bt145 => (if bt145.2.2 = 3 then (if (wrap64 (1 + (wrap64 (Int.tmod a1 64)))) < 64 then (if 0 ≤ (wrap64 (1 + (wrap64 (Int.tmod a1 64)))) then (if (shr .u64 a0 (wrap64 (1 + (wrap64 (Int.tmod a1 64))))) = 0 then (if t139 = 0 then (if t137 = a0 then (some (t138 == (t125.length : Int))) else (some false)) else (some false)) else (if t139 = 4 then (some (t138 == 0)) else (some false))) else (none)) else (if t139 = 0 then (if t137 = a0 then (some (t138 == (t125.length : Int))) else (some false)) else (some false))) else (some false))) else (none)) else (none)) = some r := H
          have A13 := Aside0.mk A130
          clear A130
          by_cases c14 : 0 ≤ t140
          · rw [if_pos c14] at H
            have c14b0 := eq_true c14
            have c14b1 : decide (0 ≤ t140) = true := decide_eq_true c14
            clear c14
            by_cases c15 : t140 ≤ (t125.length : Int)
            · rw [if_pos c15] at H
              have c15b0 := eq_true c15
              have c15b1 : decide (t140 ≤ (t125.length : Int)) = true := decide_eq_true c15
              clear c15
              obtain ⟨y141, hy141⟩ : ∃ y_ : List Int, y_ = (t125.take (t140 : Int).toNat) := ⟨_, rfl⟩
              replace H : ((zig_Take.f k y141 64).bind fun bt145 => (if bt145.2.2 = 3 then (if (wrap64 (1 + (wrap64 (Int.tmod a1 64)))) < 64 then (if 0 ≤ (wrap64 (1 + (wrap64 (Int.tmod a1 64)))) then (if (shr .u64 a0 (wrap64 (1 + (wrap64 (Int.tmod a1 64))))) = 0 then (if t139 = 0 then (if t137 = a0 then (some (t138 == (t125.length : Int))) else (some false)) else (some false)) else (if t139 = 4 then (some (t138 == 0)) else (some false))) else (none)) else (if t139 = 0 then (if t137 = a0 then (some (t138 == (t125.length : Int))) else (some false)) else (some false))) else (some false))) = some r := by first | (rw [hy141]; with_reducible exact H) | (have H2_ := (Option.bind_some _ _).symm.trans H; rw [hy141]; with_reducible exact H2_) | (have H2_ := (Option.bind_some _ _).symm.trans H; with_reducible exact H2_) | with_reducible exact H | (rw [hy141]; exact H) | exact H
              have Ny141 := Aside0.mk hy141
              clear hy141
              replace H := Option.bind_eq_some_iff.mp H
              obtain ⟨⟨t145, t146, t147⟩, A160, H⟩ := H
              replace H : (if t147 = 3 then (if (wrap64 (1 + (wrap64 (Int.tmod a1 64)))) < 64 then (if 0 ≤ (wrap64 (1 + (wrap64 (Int.tmod a1 64)))) then (if (shr .u64 a0 (wrap64 (1 + (wrap64 (Int.tmod a1 64))))) = 0 then (if t139 = 0 then (if t137 = a0 then (some (t138 == (t125.length : Int))) else (some false)) else (some false)) else (if t139 = 4 then (some (t138 == 0)) else (some false))) else (none)) else (if t139 = 0 then (if t137 = a0 then (some (t138 == (t125.length : Int))) else (some false)) else (some false))) else (some false)) = some r := H
              have A16 := Aside0.mk A160
              clear A160
              by_cases c17 : t147 = 3
              · rw [if_pos c17] at H
                have c17b0 : (t147 == 3) = true := beq_iff_eq.mpr c17
                have c17b1 : (t147 != 3) = false := bne_eq_false_iff_eq.mpr c17
                clear c17
                by_cases c18 : (wrap64 (1 + (wrap64 (Int.tmod a1 64)))) < 64
                · rw [if_pos c18] at H
                  have c18b0 : decide ((wrap64 (1 + (wrap64 (Int.tmod a1 64)))) < 64) = true := decide_eq_true c18
                  clear c18
                  obtain ⟨ji19, hji19⟩ : ∃ j_ : Int, (wrap64 (1 + (wrap64 (Int.tmod a1 64)))) = j_ := ⟨_, rfl⟩
                  replace H : (if 0 ≤ (ji19) then (if (shr .u64 a0 (ji19)) = 0 then (if t139 = 0 then (if t137 = a0 then (some (t138 == (t125.length : Int))) else (some false)) else (some false)) else (if t139 = 4 then (some (t138 == 0)) else (some false))) else (none)) = some r := by first | (rw [hji19] at H; exact H) | (simp only [hji19] at H ⊢; exact H)
                  (try rw [hji19] at c18b0)
                  (try rw [hji19] at A5)
                  (try rw [hji19] at A9)
                  (try rw [hji19] at A12)
                  (try rw [hji19] at A13)
                  (try rw [hji19] at A16)
                  have hji19w : (IntKind.i64.wrap (1 + (wrap64 (Int.tmod a1 64)))) = ji19 := (i64_w _).trans hji19
                  by_cases c20 : 0 ≤ (ji19)
                  · rw [if_pos c20] at H
                    have c20b0 := eq_true c20
                    have c20b1 : decide (0 ≤ (ji19)) = true := decide_eq_true c20
                    clear c20
                    obtain ⟨ji21, hji21⟩ : ∃ j_ : Int, (shr .u64 a0 (ji19)) = j_ := ⟨_, rfl⟩
                    replace H : (if (ji21) = 0 then (if t139 = 0 then (if t137 = a0 then (some (t138 == (t125.length : Int))) else (some false)) else (some false)) else (if t139 = 4 then (some (t138 == 0)) else (some false))) = some r := by first | (rw [hji21] at H; exact H) | (simp only [hji21] at H ⊢; exact H)
                    (try rw [hji21] at A5)
                    (try rw [hji21] at A9)
                    (try rw [hji21] at A12)
                    (try rw [hji21] at A13)
                    (try rw [hji21] at A16)
                    have hji21_ : (a0 / 2 ^ min (ji19).toNat 64) = ji21 := hji21
                    have hji21z : (ji19) ≤ 64 → (a0 / 2 ^ (ji19).toNat) = ji21 := shr_small hji21
                    by_cases c22 : (ji21) = 0
                    · rw [if_pos c22] at H
                      have c22b0 : ((ji21) == 0) = true := beq_iff_eq.mpr c22
                      have c22b1 : ((ji21) != 0) = false := bne_eq_false_iff_eq.mpr c22
                      clear c22
                      by_cases c23 : t139 = 0
                      · rw [if_pos c23] at H
                        have c23b0 : (t139 == 0) = true := beq_iff_eq.mpr c23
                        have c23b1 : (t139 != 0) = false := bne_eq_false_iff_eq.mpr c23
                        clear c23
                        by_cases c24 : t137 = a0
                        · rw [if_pos c24] at H
                          have c24b0 : (t137 == a0) = true := beq_iff_eq.mpr c24
                          have c24b1 : (t137 != a0) = false := bne_eq_false_iff_eq.mpr c24
                          clear c24
                          obtain rfl := Option.some.inj H
                          go_enter Try.func5, Try.ntmps5
                          go_wp2_with (first | ((with_reducible refine gate_callee (f := 14) rfl ?_); refine goesL_ (some 17) rfl rfl Try.func14 (by kernel_rfl) rfl #[] rfl (by (try simp only [List.map_toArray, List.map_cons, List.map_nil]); first | done | rfl | (simp only [List.length_drop, List.length_take]; rfl)) ?_; (with_reducible refine (assayerlaw2_begun.calls k  true _ A5.out rfl).mono ?_); rintro e w25 ⟨rfl, hb⟩; refine ⟨_, rfl, ?_⟩; have n0_ := Aside0.mk (below_step (by repeat (first | (with_reducible first | exact HB.out | apply below_alloc | apply pw_below_drewN | apply below_drew1) | exact HB.out)) hb); clear HB; have HB := n0_; clear n0_; (try clear hb); (try clear hb2); (try clear hk); (try clear hi)) | ((with_reducible refine gate_callee (f := 26) rfl ?_); refine goesL_ (some 27) rfl rfl Try.func26 (by kernel_rfl) rfl #[.slice none 0 0, .int .u64 a0] rfl (by (try simp only [List.map_toArray, List.map_cons, List.map_nil]); first | done | rfl | (simp only [List.length_drop, List.length_take]; rfl)) ?_; (refine (zig_Put.calls k _ _ ([] : List Int) a0 t125 _ ?side1 ?side2 A9.out).mono ?_); (case side1 => exact Kd.C_nil _ _); (case side2 => exact Nat.le_refl _); rintro e w26 ⟨v126, rfl, ho0, hb⟩; refine ⟨_, rfl, ?_⟩; have n0_ := Aside0.mk (Kd.R_lower ho0 (below_size (by repeat (first | (with_reducible first | exact HB.out | apply below_alloc | apply pw_below_drewN | apply below_drew1) | exact HB.out)))); have n1_ := Aside0.mk (below_step (by repeat (first | (with_reducible first | exact HB.out | apply below_alloc | apply pw_below_drewN | apply below_drew1) | exact HB.out)) hb); clear HB; have HO127 := n0_; have HB := n1_; clear n0_ n1_; (try clear hb); (try clear hb2); (try clear hk); (try clear hi); (try clear ho0)) | ((with_reducible refine gate_dst (N := 29) rfl ?_); (try (refine gate_guard (by rfl) ?_; dsimp only)); refine Kd.R_lit (Kd.int .u8) _ 5 ?hg (N := 29) ?hd (xs := ([] : List Int)) (inner := []) (ok := fun _ => True) (okp := fun _ => True) ?hr ?hp (fun _ hk => hk) trivial (Below.refl _ _) (Nat.le_refl _) (by simp) ?_; (case hd => rfl); (case hg => rfl); (case hr => first | (go_simp; done) | (go_simp; rfl)); (case hp => exact (Reps.none _ _)); intro v129 w27 ho28 hb hg_ hnew_; clear hg_ hnew_; (first | rw [← Ny128.out] at ho28 | (simp only [Int.reduceToNat] at ho28; rw [← Ny128.out] at ho28)); have n0_ := Aside0.mk (Kd.R_elder' (by (with_reducible repeat (first | apply Kd.R_alloc | apply Kd.R_drewN | apply Kd.R_drew)); exact HO127.out) (Kd.R_base ho28) hb); have n1_ := Aside0.mk (Kd.R_lower (Kd.R_new' ho28 (Kd.R_lt (by (with_reducible repeat (first | apply Kd.R_alloc | apply Kd.R_drewN | apply Kd.R_drew)); exact HO127.out))) (below_size (by repeat (first | (with_reducible first | exact HB.out | apply below_alloc | apply pw_below_drewN | apply below_drew1) | exact HB.out)))); have n2_ := Aside0.mk (below_step (by repeat (first | (with_reducible first | exact HB.out | apply below_alloc | apply pw_below_drewN | apply below_drew1) | exact HB.out)) hb); clear HO127; clear HB; have HO127 := n0_; have HO130 := n1_; have HB := n2_; clear n0_ n1_ n2_; clear hb ho28; obtain ⟨Ao30, co30, eo30⟩ := Kd.R_slice HO127.out; subst eo30) | ((with_reducible refine gate_builtin (b := .append) (xs := #[.tmp 29, .tmp 30]) rfl ?_); (try (refine gate_guard (by rfl) ?_; dsimp only)); at_builtin; refine Kd.R_append_rows (Kd.int .u8) (w0 := w) w.heap.size rfl (.tmp 29) (.tmp 30) 24 5 (.int .u8 0) 1 rfl Try.underlying24 info5 rfl (by decide) (by omega) v129 y128 t125 _ _ _ (fun k_ => some k_ ≠ (.slice Ao30 t125.length co30 : Value).ownBlock) (fun _ => False) rfl rfl ?aO ?aR (fun _ _ h => h) (fun _ h => h.elim) ?aF ?aB ?aS ?aL ?_; (case aR => repeat (first | exact (Kd.R_reads' HO127.out).2.2 | (with_reducible refine Kd.C_alloc ?_ _) | (with_reducible refine Kd.C_drewN ?_ _) | (with_reducible refine Kd.C_drew ?_))); (case aB => exact (by repeat (first | (with_reducible first | exact HB.out | apply below_alloc | apply pw_below_drewN | apply below_drew1) | exact HB.out))); (case aF => exact (fun k_ hk => Kd.fresh' (Kd.R_lt (by (with_reducible repeat (first | apply Kd.R_alloc | apply Kd.R_drewN | apply Kd.R_drew)); exact HO127.out)) k_ hk)); (case aO => exact (by (with_reducible repeat (first | apply Kd.R_alloc | apply Kd.R_drewN | apply Kd.R_drew)); exact Kd.R_mono HO130.out (fun _ hk => hk.2))); (case aS => exact (below_size (by repeat (first | (with_reducible first | exact HB.out | apply below_alloc | apply pw_below_drewN | apply below_drew1) | exact HB.out)))); (case aL => have := LMc10.out; (try rw [hji19] at this); (try rw [hji21] at this); omega); intro v132 w29 ho hb hg hat; rw [← Ny131.out] at ho; have n0_ := Aside0.mk (Kd.R_after (ok := (fun _ => True)) (by (with_reducible repeat (first | apply Kd.R_alloc | apply Kd.R_drewN | apply Kd.R_drew)); exact HO127.out) hg hat); have n1_ := Aside0.mk (hb); have n2_ := Aside0.mk (ho); clear HO127; clear HB; clear HO130; have HO127 := n0_; have HB := n1_; have HO133 := n2_; clear n0_ n1_ n2_; clear ho hb hg hat) | ((with_reducible refine gate_builtin (b := .append) (xs := #[.tmp 31, .tmp 32]) rfl ?_); (try (refine gate_guard (by rfl) ?_; dsimp only)); at_builtin; refine Kd.R_append_rows (Kd.int .u8) (w0 := w) w.heap.size rfl (.tmp 31) (.tmp 32) 24 5 (.int .u8 0) 1 rfl Try.underlying24 info5 rfl (by decide) (by omega) v132 y131 l2 _ _ _ (fun k_ => some k_ ≠ (.slice Ao30 t125.length co30 : Value).ownBlock) (fun _ => False) rfl rfl ?aO ?aR (fun _ _ h => h) (fun _ h => h.elim) ?aF ?aB ?aS ?aL ?_; (case aR => repeat (first | exact (Kd.C_below HR2.out HB.out) | (with_reducible refine Kd.C_alloc ?_ _) | (with_reducible refine Kd.C_drewN ?_ _) | (with_reducible refine Kd.C_drew ?_))); (case aB => exact (by repeat (first | (with_reducible first | exact HB.out | apply below_alloc | apply pw_below_drewN | apply below_drew1) | exact HB.out))); (case aF => exact (fun k_ hk => Kd.fresh' (Kd.R_lt (by (with_reducible repeat (first | apply Kd.R_alloc | apply Kd.R_drewN | apply Kd.R_drew)); exact HO127.out)) k_ hk)); (case aO => exact (by (with_reducible repeat (first | apply Kd.R_alloc | apply Kd.R_drewN | apply Kd.R_drew)); exact HO133.out)); (case aS => exact (below_size (by repeat (first | (with_reducible first | exact HB.out | apply below_alloc | apply pw_below_drewN | apply below_drew1) | exact HB.out)))); (case aL => have := LMc11.out; (try rw [hji19] at this); (try rw [hji21] at this); omega); intro v135 w31 ho hb hg hat; rw [← Ny134.out] at ho; have n0_ := Aside0.mk (Kd.R_after (ok := (fun _ => True)) (by (with_reducible repeat (first | apply Kd.R_alloc | apply Kd.R_drewN | apply Kd.R_drew)); exact HO127.out) hg hat); have n1_ := Aside0.mk (hb); have n2_ := Aside0.mk (ho); clear HO127; clear HB; clear HO133; have HO127 := n0_; have HB := n1_; have HO136 := n2_; clear n0_ n1_ n2_; clear ho hb hg hat; obtain ⟨Ao32, co32, eo32⟩ := Kd.R_slice HO136.out; subst eo32) | ((with_reducible refine gate_callee (f := 16) rfl ?_); refine goesL_ (some 35) rfl rfl Try.func16 (by kernel_rfl) rfl #[.slice Ao32 y134.length co32, .int .i64 ji19] rfl (by (try simp only [List.map_toArray, List.map_cons, List.map_nil]); first | done | (simp only [hji19]; rfl) | rfl | (simp only [List.length_drop, List.length_take]; rfl)) ?_; (with_reducible refine (zig_Take.calls k _ _ y134 ji19 t137 t138 t139 _ ?side1 ?side2 A12.out).mono ?_); (case side1 => repeat (first | exact (Kd.R_reads' HO136.out).2.2 | (with_reducible refine Kd.C_alloc ?_ _) | (with_reducible refine Kd.C_drewN ?_ _) | (with_reducible refine Kd.C_drew ?_))); (case side2 => exact (Kd.R_reads' HO136.out).2.1); rintro e w' ⟨rfl, ⟨nd, rfl⟩⟩; refine ⟨_, rfl, ?_⟩) | ((with_reducible refine gate_callee (f := 29) rfl ?_); refine goesL_ (some 44) rfl rfl Try.func29 (by kernel_rfl) rfl #[.int .i64 a3, .int .i64 (t125.length : Int)] rfl (by (try simp only [List.map_toArray, List.map_cons, List.map_nil]); first | done | rfl | (simp only [List.length_drop, List.length_take]; rfl)) ?_; (with_reducible refine (assayerlaw0_Place.calls a3 (t125.length : Int) t140 _ A13.out).mono ?_); rintro e w' ⟨rfl, ⟨nd, rfl⟩⟩; refine ⟨_, rfl, ?_⟩; have q33 : (t140 : Int) ≤ ((t125.length : Int) : Int) := of_decide_eq_true (by first | (with_reducible assumption) | assumption); obtain ⟨i033, hi033, _, hsz33, _⟩ := info_parts info5; have hroom33 : t125.length ≤ co30 := (Kd.R_reads' HO127.out).2.1; have hC33 : Kd.C (Kd.int .u8) _ Ao30 t125.length t125 := (Kd.R_reads' HO127.out).2.2; have hcut33 := cut_to (P := Try.prog) 24 5 .i64 Try.underlying24 hi033 Ao30 t125.length co30 t140 (of_decide_eq_true (by first | (with_reducible assumption) | assumption)) q33 hroom33; have hr33 := Kd.C_take (m := (t140 : Int).toNat) hC33 (by omega); have hy33 : y141.length = (t140 : Int).toNat := (by rw [Ny141.out, List.length_take]; omega); rw [← Ny141.out] at hr33; rw [← hy33] at hcut33; have HR144 := Aside0.mk hr33; have HC144 := Aside0.mk (show y141.length ≤ co30 from by omega); clear hr33 hC33 hroom33 hi033 hsz33; have KY33 := Aside0.mk hy33; clear hy33; have KL33 := Aside0.mk (show (t140 : Int).toNat ≤ t125.length from by omega); replace q33 := eq_true q33) | ((with_reducible refine gate_callee (f := 16) rfl ?_); refine goesL_ (some 46) rfl rfl Try.func16 (by kernel_rfl) rfl #[.slice Ao30 y141.length co30, .int .i64 64] rfl (by (try simp only [List.map_toArray, List.map_cons, List.map_nil]); first | done | rfl | (simp only [List.length_drop, List.length_take]; rfl)) ?_; (with_reducible refine (zig_Take.calls k _ _ y141 64 t145 t146 t147 _ ?side1 ?side2 A16.out).mono ?_); (case side1 => repeat (first | exact (by repeat (first | (with_reducible exact HR144.out) | (with_reducible refine Kd.C_alloc ?_ _) | (with_reducible refine Kd.C_drewN ?_ _) | (with_reducible refine Kd.C_drew ?_) | exact HR144.out)) | (with_reducible refine Kd.C_alloc ?_ _) | (with_reducible refine Kd.C_drewN ?_ _) | (with_reducible refine Kd.C_drew ?_))); (case side2 => exact HC144.out); rintro e w' ⟨rfl, ⟨nd, rfl⟩⟩; refine ⟨_, rfl, ?_⟩))
                          go_ret
                          exact ⟨by first | rfl | (simp [errW_none, errW_some] <;> rfl) | (simp only [← hji19, ← hji21]; first | rfl | (simp [errW_none, errW_some] <;> rfl)) | (simp [*, errW_none, errW_some] <;> rfl), by repeat (first | (with_reducible first | exact HB.out | apply below_alloc | apply pw_below_drewN | apply below_drew1) | exact HB.out)⟩
                        · rw [if_neg c24] at H
                          have c24b0 : (t137 == a0) = false := beq_eq_false_iff_ne.mpr c24
                          have c24b1 : (t137 != a0) = true := bne_iff_ne.mpr c24
                          exact absurd (Option.some.inj H) (by rw [hrt]; decide)
                      · rw [if_neg c23] at H
                        have c23b0 : (t139 == 0) = false := beq_eq_false_iff_ne.mpr c23
                        have c23b1 : (t139 != 0) = true := bne_iff_ne.mpr c23
                        exact absurd (Option.some.inj H) (by rw [hrt]; decide)
                    · rw [if_neg c22] at H
                      have c22b0 : ((ji21) == 0) = false := beq_eq_false_iff_ne.mpr c22
                      have c22b1 : ((ji21) != 0) = true := bne_iff_ne.mpr c22
                      by_cases c34 : t139 = 4
                      · rw [if_pos c34] at H
                        have c34b0 : (t139 == 4) = true := beq_iff_eq.mpr c34
                        have c34b1 : (t139 != 4) = false := bne_eq_false_iff_eq.mpr c34
                        clear c34
                        obtain rfl := Option.some.inj H
                        go_enter Try.func5, Try.ntmps5
                        go_wp2_with (first | ((with_reducible refine gate_callee (f := 14) rfl ?_); refine goesL_ (some 17) rfl rfl Try.func14 (by kernel_rfl) rfl #[] rfl (by (try simp only [List.map_toArray, List.map_cons, List.map_nil]); first | done | rfl | (simp only [List.length_drop, List.length_take]; rfl)) ?_; (with_reducible refine (assayerlaw2_begun.calls k  true _ A5.out rfl).mono ?_); rintro e w35 ⟨rfl, hb⟩; refine ⟨_, rfl, ?_⟩; have n0_ := Aside0.mk (below_step (by repeat (first | (with_reducible first | exact HB.out | apply below_alloc | apply pw_below_drewN | apply below_drew1) | exact HB.out)) hb); clear HB; have HB := n0_; clear n0_; (try clear hb); (try clear hb2); (try clear hk); (try clear hi)) | ((with_reducible refine gate_callee (f := 26) rfl ?_); refine goesL_ (some 27) rfl rfl Try.func26 (by kernel_rfl) rfl #[.slice none 0 0, .int .u64 a0] rfl (by (try simp only [List.map_toArray, List.map_cons, List.map_nil]); first | done | rfl | (simp only [List.length_drop, List.length_take]; rfl)) ?_; (refine (zig_Put.calls k _ _ ([] : List Int) a0 t125 _ ?side1 ?side2 A9.out).mono ?_); (case side1 => exact Kd.C_nil _ _); (case side2 => exact Nat.le_refl _); rintro e w36 ⟨v126, rfl, ho0, hb⟩; refine ⟨_, rfl, ?_⟩; have n0_ := Aside0.mk (Kd.R_lower ho0 (below_size (by repeat (first | (with_reducible first | exact HB.out | apply below_alloc | apply pw_below_drewN | apply below_drew1) | exact HB.out)))); have n1_ := Aside0.mk (below_step (by repeat (first | (with_reducible first | exact HB.out | apply below_alloc | apply pw_below_drewN | apply below_drew1) | exact HB.out)) hb); clear HB; have HO127 := n0_; have HB := n1_; clear n0_ n1_; (try clear hb); (try clear hb2); (try clear hk); (try clear hi); (try clear ho0)) | ((with_reducible refine gate_dst (N := 29) rfl ?_); (try (refine gate_guard (by rfl) ?_; dsimp only)); refine Kd.R_lit (Kd.int .u8) _ 5 ?hg (N := 29) ?hd (xs := ([] : List Int)) (inner := []) (ok := fun _ => True) (okp := fun _ => True) ?hr ?hp (fun _ hk => hk) trivial (Below.refl _ _) (Nat.le_refl _) (by simp) ?_; (case hd => rfl); (case hg => rfl); (case hr => first | (go_simp; done) | (go_simp; rfl)); (case hp => exact (Reps.none _ _)); intro v129 w37 ho38 hb hg_ hnew_; clear hg_ hnew_; (first | rw [← Ny128.out] at ho38 | (simp only [Int.reduceToNat] at ho38; rw [← Ny128.out] at ho38)); have n0_ := Aside0.mk (Kd.R_elder' (by (with_reducible repeat (first | apply Kd.R_alloc | apply Kd.R_drewN | apply Kd.R_drew)); exact HO127.out) (Kd.R_base ho38) hb); have n1_ := Aside0.mk (Kd.R_lower (Kd.R_new' ho38 (Kd.R_lt (by (with_reducible repeat (first | apply Kd.R_alloc | apply Kd.R_drewN | apply Kd.R_drew)); exact HO127.out))) (below_size (by repeat (first | (with_reducible first | exact HB.out | apply below_alloc | apply pw_below_drewN | apply below_drew1) | exact HB.out)))); have n2_ := Aside0.mk (below_step (by repeat (first | (with_reducible first | exact HB.out | apply below_alloc | apply pw_below_drewN | apply below_drew1) | exact HB.out)) hb); clear HO127; clear HB; have HO127 := n0_; have HO130 := n1_; have HB := n2_; clear n0_ n1_ n2_; clear hb ho38; obtain ⟨Ao40, co40, eo40⟩ := Kd.R_slice HO127.out; subst eo40) | ((with_reducible refine gate_builtin (b := .append) (xs := #[.tmp 29, .tmp 30]) rfl ?_); (try (refine gate_guard (by rfl) ?_; dsimp only)); at_builtin; refine Kd.R_append_rows (Kd.int .u8) (w0 := w) w.heap.size rfl (.tmp 29) (.tmp 30) 24 5 (.int .u8 0) 1 rfl Try.underlying24 info5 rfl (by decide) (by omega) v129 y128 t125 _ _ _ (fun k_ => some k_ ≠ (.slice Ao40 t125.length co40 : Value).ownBlock) (fun _ => False) rfl rfl ?aO ?aR (fun _ _ h => h) (fun _ h => h.elim) ?aF ?aB ?aS ?aL ?_; (case aR => repeat (first | exact (Kd.R_reads' HO127.out).2.2 | (with_reducible refine Kd.C_alloc ?_ _) | (with_reducible refine Kd.C_drewN ?_ _) | (with_reducible refine Kd.C_drew ?_))); (case aB => exact (by repeat (first | (with_reducible first | exact HB.out | apply below_alloc | apply pw_below_drewN | apply below_drew1) | exact HB.out))); (case aF => exact (fun k_ hk => Kd.fresh' (Kd.R_lt (by (with_reducible repeat (first | apply Kd.R_alloc | apply Kd.R_drewN | apply Kd.R_drew)); exact HO127.out)) k_ hk)); (case aO => exact (by (with_reducible repeat (first | apply Kd.R_alloc | apply Kd.R_drewN | apply Kd.R_drew)); exact Kd.R_mono HO130.out (fun _ hk => hk.2))); (case aS => exact (below_size (by repeat (first | (with_reducible first | exact HB.out | apply below_alloc | apply pw_below_drewN | apply below_drew1) | exact HB.out)))); (case aL => have := LMc10.out; (try rw [hji19] at this); (try rw [hji21] at this); omega); intro v132 w39 ho hb hg hat; rw [← Ny131.out] at ho; have n0_ := Aside0.mk (Kd.R_after (ok := (fun _ => True)) (by (with_reducible repeat (first | apply Kd.R_alloc | apply Kd.R_drewN | apply Kd.R_drew)); exact HO127.out) hg hat); have n1_ := Aside0.mk (hb); have n2_ := Aside0.mk (ho); clear HO127; clear HB; clear HO130; have HO127 := n0_; have HB := n1_; have HO133 := n2_; clear n0_ n1_ n2_; clear ho hb hg hat) | ((with_reducible refine gate_builtin (b := .append) (xs := #[.tmp 31, .tmp 32]) rfl ?_); (try (refine gate_guard (by rfl) ?_; dsimp only)); at_builtin; refine Kd.R_append_rows (Kd.int .u8) (w0 := w) w.heap.size rfl (.tmp 31) (.tmp 32) 24 5 (.int .u8 0) 1 rfl Try.underlying24 info5 rfl (by decide) (by omega) v132 y131 l2 _ _ _ (fun k_ => some k_ ≠ (.slice Ao40 t125.length co40 : Value).ownBlock) (fun _ => False) rfl rfl ?aO ?aR (fun _ _ h => h) (fun _ h => h.elim) ?aF ?aB ?aS ?aL ?_; (case aR => repeat (first | exact (Kd.C_below HR2.out HB.out) | (with_reducible refine Kd.C_alloc ?_ _) | (with_reducible refine Kd.C_drewN ?_ _) | (with_reducible refine Kd.C_drew ?_))); (case aB => exact (by repeat (first | (with_reducible first | exact HB.out | apply below_alloc | apply pw_below_drewN | apply below_drew1) | exact HB.out))); (case aF => exact (fun k_ hk => Kd.fresh' (Kd.R_lt (by (with_reducible repeat (first | apply Kd.R_alloc | apply Kd.R_drewN | apply Kd.R_drew)); exact HO127.out)) k_ hk)); (case aO => exact (by (with_reducible repeat (first | apply Kd.R_alloc | apply Kd.R_drewN | apply Kd.R_drew)); exact HO133.out)); (case aS => exact (below_size (by repeat (first | (with_reducible first | exact HB.out | apply below_alloc | apply pw_below_drewN | apply below_drew1) | exact HB.out)))); (case aL => have := LMc11.out; (try rw [hji19] at this); (try rw [hji21] at this); omega); intro v135 w41 ho hb hg hat; rw [← Ny134.out] at ho; have n0_ := Aside0.mk (Kd.R_after (ok := (fun _ => True)) (by (with_reducible repeat (first | apply Kd.R_alloc | apply Kd.R_drewN | apply Kd.R_drew)); exact HO127.out) hg hat); have n1_ := Aside0.mk (hb); have n2_ := Aside0.mk (ho); clear HO127; clear HB; clear HO133; have HO127 := n0_; have HB := n1_; have HO136 := n2_; clear n0_ n1_ n2_; clear ho hb hg hat; obtain ⟨Ao42, co42, eo42⟩ := Kd.R_slice HO136.out; subst eo42) | ((with_reducible refine gate_callee (f := 16) rfl ?_); refine goesL_ (some 35) rfl rfl Try.func16 (by kernel_rfl) rfl #[.slice Ao42 y134.length co42, .int .i64 ji19] rfl (by (try simp only [List.map_toArray, List.map_cons, List.map_nil]); first | done | (simp only [hji19]; rfl) | rfl | (simp only [List.length_drop, List.length_take]; rfl)) ?_; (with_reducible refine (zig_Take.calls k _ _ y134 ji19 t137 t138 t139 _ ?side1 ?side2 A12.out).mono ?_); (case side1 => repeat (first | exact (Kd.R_reads' HO136.out).2.2 | (with_reducible refine Kd.C_alloc ?_ _) | (with_reducible refine Kd.C_drewN ?_ _) | (with_reducible refine Kd.C_drew ?_))); (case side2 => exact (Kd.R_reads' HO136.out).2.1); rintro e w' ⟨rfl, ⟨nd, rfl⟩⟩; refine ⟨_, rfl, ?_⟩) | ((with_reducible refine gate_callee (f := 29) rfl ?_); refine goesL_ (some 44) rfl rfl Try.func29 (by kernel_rfl) rfl #[.int .i64 a3, .int .i64 (t125.length : Int)] rfl (by (try simp only [List.map_toArray, List.map_cons, List.map_nil]); first | done | rfl | (simp only [List.length_drop, List.length_take]; rfl)) ?_; (with_reducible refine (assayerlaw0_Place.calls a3 (t125.length : Int) t140 _ A13.out).mono ?_); rintro e w' ⟨rfl, ⟨nd, rfl⟩⟩; refine ⟨_, rfl, ?_⟩; have q43 : (t140 : Int) ≤ ((t125.length : Int) : Int) := of_decide_eq_true (by first | (with_reducible assumption) | assumption); obtain ⟨i043, hi043, _, hsz43, _⟩ := info_parts info5; have hroom43 : t125.length ≤ co40 := (Kd.R_reads' HO127.out).2.1; have hC43 : Kd.C (Kd.int .u8) _ Ao40 t125.length t125 := (Kd.R_reads' HO127.out).2.2; have hcut43 := cut_to (P := Try.prog) 24 5 .i64 Try.underlying24 hi043 Ao40 t125.length co40 t140 (of_decide_eq_true (by first | (with_reducible assumption) | assumption)) q43 hroom43; have hr43 := Kd.C_take (m := (t140 : Int).toNat) hC43 (by omega); have hy43 : y141.length = (t140 : Int).toNat := (by rw [Ny141.out, List.length_take]; omega); rw [← Ny141.out] at hr43; rw [← hy43] at hcut43; have HR144 := Aside0.mk hr43; have HC144 := Aside0.mk (show y141.length ≤ co40 from by omega); clear hr43 hC43 hroom43 hi043 hsz43; have KY43 := Aside0.mk hy43; clear hy43; have KL43 := Aside0.mk (show (t140 : Int).toNat ≤ t125.length from by omega); replace q43 := eq_true q43) | ((with_reducible refine gate_callee (f := 16) rfl ?_); refine goesL_ (some 46) rfl rfl Try.func16 (by kernel_rfl) rfl #[.slice Ao40 y141.length co40, .int .i64 64] rfl (by (try simp only [List.map_toArray, List.map_cons, List.map_nil]); first | done | rfl | (simp only [List.length_drop, List.length_take]; rfl)) ?_; (with_reducible refine (zig_Take.calls k _ _ y141 64 t145 t146 t147 _ ?side1 ?side2 A16.out).mono ?_); (case side1 => repeat (first | exact (by repeat (first | (with_reducible exact HR144.out) | (with_reducible refine Kd.C_alloc ?_ _) | (with_reducible refine Kd.C_drewN ?_ _) | (with_reducible refine Kd.C_drew ?_) | exact HR144.out)) | (with_reducible refine Kd.C_alloc ?_ _) | (with_reducible refine Kd.C_drewN ?_ _) | (with_reducible refine Kd.C_drew ?_))); (case side2 => exact HC144.out); rintro e w' ⟨rfl, ⟨nd, rfl⟩⟩; refine ⟨_, rfl, ?_⟩))
                        go_ret
                        exact ⟨by first | rfl | (simp [errW_none, errW_some] <;> rfl) | (simp only [← hji19, ← hji21]; first | rfl | (simp [errW_none, errW_some] <;> rfl)) | (simp [*, errW_none, errW_some] <;> rfl), by repeat (first | (with_reducible first | exact HB.out | apply below_alloc | apply pw_below_drewN | apply below_drew1) | exact HB.out)⟩
                      · rw [if_neg c34] at H
                        have c34b0 : (t139 == 4) = false := beq_eq_false_iff_ne.mpr c34
                        have c34b1 : (t139 != 4) = true := bne_iff_ne.mpr c34
                        exact absurd (Option.some.inj H) (by rw [hrt]; decide)
                  · rw [if_neg c20] at H
                    exact absurd H (by simp)
                · rw [if_neg c18] at H
                  have c18b0 : decide ((wrap64 (1 + (wrap64 (Int.tmod a1 64)))) < 64) = false := decide_eq_false c18
                  clear c18
                  by_cases c44 : t139 = 0
                  · rw [if_pos c44] at H
                    have c44b0 : (t139 == 0) = true := beq_iff_eq.mpr c44
                    have c44b1 : (t139 != 0) = false := bne_eq_false_iff_eq.mpr c44
                    clear c44
                    by_cases c45 : t137 = a0
                    · rw [if_pos c45] at H
                      have c45b0 : (t137 == a0) = true := beq_iff_eq.mpr c45
                      have c45b1 : (t137 != a0) = false := bne_eq_false_iff_eq.mpr c45
                      clear c45
                      obtain rfl := Option.some.inj H
                      go_enter Try.func5, Try.ntmps5
                      go_wp2_with (first | ((with_reducible refine gate_callee (f := 14) rfl ?_); refine goesL_ (some 17) rfl rfl Try.func14 (by kernel_rfl) rfl #[] rfl (by (try simp only [List.map_toArray, List.map_cons, List.map_nil]); first | done | rfl | (simp only [List.length_drop, List.length_take]; rfl)) ?_; (with_reducible refine (assayerlaw2_begun.calls k  true _ A5.out rfl).mono ?_); rintro e w46 ⟨rfl, hb⟩; refine ⟨_, rfl, ?_⟩; have n0_ := Aside0.mk (below_step (by repeat (first | (with_reducible first | exact HB.out | apply below_alloc | apply pw_below_drewN | apply below_drew1) | exact HB.out)) hb); clear HB; have HB := n0_; clear n0_; (try clear hb); (try clear hb2); (try clear hk); (try clear hi)) | ((with_reducible refine gate_callee (f := 26) rfl ?_); refine goesL_ (some 27) rfl rfl Try.func26 (by kernel_rfl) rfl #[.slice none 0 0, .int .u64 a0] rfl (by (try simp only [List.map_toArray, List.map_cons, List.map_nil]); first | done | rfl | (simp only [List.length_drop, List.length_take]; rfl)) ?_; (refine (zig_Put.calls k _ _ ([] : List Int) a0 t125 _ ?side1 ?side2 A9.out).mono ?_); (case side1 => exact Kd.C_nil _ _); (case side2 => exact Nat.le_refl _); rintro e w47 ⟨v126, rfl, ho0, hb⟩; refine ⟨_, rfl, ?_⟩; have n0_ := Aside0.mk (Kd.R_lower ho0 (below_size (by repeat (first | (with_reducible first | exact HB.out | apply below_alloc | apply pw_below_drewN | apply below_drew1) | exact HB.out)))); have n1_ := Aside0.mk (below_step (by repeat (first | (with_reducible first | exact HB.out | apply below_alloc | apply pw_below_drewN | apply below_drew1) | exact HB.out)) hb); clear HB; have HO127 := n0_; have HB := n1_; clear n0_ n1_; (try clear hb); (try clear hb2); (try clear hk); (try clear hi); (try clear ho0)) | ((with_reducible refine gate_dst (N := 29) rfl ?_); (try (refine gate_guard (by rfl) ?_; dsimp only)); refine Kd.R_lit (Kd.int .u8) _ 5 ?hg (N := 29) ?hd (xs := ([] : List Int)) (inner := []) (ok := fun _ => True) (okp := fun _ => True) ?hr ?hp (fun _ hk => hk) trivial (Below.refl _ _) (Nat.le_refl _) (by simp) ?_; (case hd => rfl); (case hg => rfl); (case hr => first | (go_simp; done) | (go_simp; rfl)); (case hp => exact (Reps.none _ _)); intro v129 w48 ho49 hb hg_ hnew_; clear hg_ hnew_; (first | rw [← Ny128.out] at ho49 | (simp only [Int.reduceToNat] at ho49; rw [← Ny128.out] at ho49)); have n0_ := Aside0.mk (Kd.R_elder' (by (with_reducible repeat (first | apply Kd.R_alloc | apply Kd.R_drewN | apply Kd.R_drew)); exact HO127.out) (Kd.R_base ho49) hb); have n1_ := Aside0.mk (Kd.R_lower (Kd.R_new' ho49 (Kd.R_lt (by (with_reducible repeat (first | apply Kd.R_alloc | apply Kd.R_drewN | apply Kd.R_drew)); exact HO127.out))) (below_size (by repeat (first | (with_reducible first | exact HB.out | apply below_alloc | apply pw_below_drewN | apply below_drew1) | exact HB.out)))); have n2_ := Aside0.mk (below_step (by repeat (first | (with_reducible first | exact HB.out | apply below_alloc | apply pw_below_drewN | apply below_drew1) | exact HB.out)) hb); clear HO127; clear HB; have HO127 := n0_; have HO130 := n1_; have HB := n2_; clear n0_ n1_ n2_; clear hb ho49; obtain ⟨Ao51, co51, eo51⟩ := Kd.R_slice HO127.out; subst eo51) | ((with_reducible refine gate_builtin (b := .append) (xs := #[.tmp 29, .tmp 30]) rfl ?_); (try (refine gate_guard (by rfl) ?_; dsimp only)); at_builtin; refine Kd.R_append_rows (Kd.int .u8) (w0 := w) w.heap.size rfl (.tmp 29) (.tmp 30) 24 5 (.int .u8 0) 1 rfl Try.underlying24 info5 rfl (by decide) (by omega) v129 y128 t125 _ _ _ (fun k_ => some k_ ≠ (.slice Ao51 t125.length co51 : Value).ownBlock) (fun _ => False) rfl rfl ?aO ?aR (fun _ _ h => h) (fun _ h => h.elim) ?aF ?aB ?aS ?aL ?_; (case aR => repeat (first | exact (Kd.R_reads' HO127.out).2.2 | (with_reducible refine Kd.C_alloc ?_ _) | (with_reducible refine Kd.C_drewN ?_ _) | (with_reducible refine Kd.C_drew ?_))); (case aB => exact (by repeat (first | (with_reducible first | exact HB.out | apply below_alloc | apply pw_below_drewN | apply below_drew1) | exact HB.out))); (case aF => exact (fun k_ hk => Kd.fresh' (Kd.R_lt (by (with_reducible repeat (first | apply Kd.R_alloc | apply Kd.R_drewN | apply Kd.R_drew)); exact HO127.out)) k_ hk)); (case aO => exact (by (with_reducible repeat (first | apply Kd.R_alloc | apply Kd.R_drewN | apply Kd.R_drew)); exact Kd.R_mono HO130.out (fun _ hk => hk.2))); (case aS => exact (below_size (by repeat (first | (with_reducible first | exact HB.out | apply below_alloc | apply pw_below_drewN | apply below_drew1) | exact HB.out)))); (case aL => have := LMc10.out; omega); intro v132 w50 ho hb hg hat; rw [← Ny131.out] at ho; have n0_ := Aside0.mk (Kd.R_after (ok := (fun _ => True)) (by (with_reducible repeat (first | apply Kd.R_alloc | apply Kd.R_drewN | apply Kd.R_drew)); exact HO127.out) hg hat); have n1_ := Aside0.mk (hb); have n2_ := Aside0.mk (ho); clear HO127; clear HB; clear HO130; have HO127 := n0_; have HB := n1_; have HO133 := n2_; clear n0_ n1_ n2_; clear ho hb hg hat) | ((with_reducible refine gate_builtin (b := .append) (xs := #[.tmp 31, .tmp 32]) rfl ?_); (try (refine gate_guard (by rfl) ?_; dsimp only)); at_builtin; refine Kd.R_append_rows (Kd.int .u8) (w0 := w) w.heap.size rfl (.tmp 31) (.tmp 32) 24 5 (.int .u8 0) 1 rfl Try.underlying24 info5 rfl (by decide) (by omega) v132 y131 l2 _ _ _ (fun k_ => some k_ ≠ (.slice Ao51 t125.length co51 : Value).ownBlock) (fun _ => False) rfl rfl ?aO ?aR (fun _ _ h => h) (fun _ h => h.elim) ?aF ?aB ?aS ?aL ?_; (case aR => repeat (first | exact (Kd.C_below HR2.out HB.out) | (with_reducible refine Kd.C_alloc ?_ _) | (with_reducible refine Kd.C_drewN ?_ _) | (with_reducible refine Kd.C_drew ?_))); (case aB => exact (by repeat (first | (with_reducible first | exact HB.out | apply below_alloc | apply pw_below_drewN | apply below_drew1) | exact HB.out))); (case aF => exact (fun k_ hk => Kd.fresh' (Kd.R_lt (by (with_reducible repeat (first | apply Kd.R_alloc | apply Kd.R_drewN | apply Kd.R_drew)); exact HO127.out)) k_ hk)); (case aO => exact (by (with_reducible repeat (first | apply Kd.R_alloc | apply Kd.R_drewN | apply Kd.R_drew)); exact HO133.out)); (case aS => exact (below_size (by repeat (first | (with_reducible first | exact HB.out | apply below_alloc | apply pw_below_drewN | apply below_drew1) | exact HB.out)))); (case aL => have := LMc11.out; omega); intro v135 w52 ho hb hg hat; rw [← Ny134.out] at ho; have n0_ := Aside0.mk (Kd.R_after (ok := (fun _ => True)) (by (with_reducible repeat (first | apply Kd.R_alloc | apply Kd.R_drewN | apply Kd.R_drew)); exact HO127.out) hg hat); have n1_ := Aside0.mk (hb); have n2_ := Aside0.mk (ho); clear HO127; clear HB; clear HO133; have HO127 := n0_; have HB := n1_; have HO136 := n2_; clear n0_ n1_ n2_; clear ho hb hg hat; obtain ⟨Ao53, co53, eo53⟩ := Kd.R_slice HO136.out; subst eo53) | ((with_reducible refine gate_callee (f := 16) rfl ?_); refine goesL_ (some 35) rfl rfl Try.func16 (by kernel_rfl) rfl #[.slice Ao53 y134.length co53, .int .i64 (wrap64 (1 + (wrap64 (Int.tmod a1 64))))] rfl (by (try simp only [List.map_toArray, List.map_cons, List.map_nil]); first | done | rfl | (simp only [List.length_drop, List.length_take]; rfl)) ?_; (with_reducible refine (zig_Take.calls k _ _ y134 (wrap64 (1 + (wrap64 (Int.tmod a1 64)))) t137 t138 t139 _ ?side1 ?side2 A12.out).mono ?_); (case side1 => repeat (first | exact (Kd.R_reads' HO136.out).2.2 | (with_reducible refine Kd.C_alloc ?_ _) | (with_reducible refine Kd.C_drewN ?_ _) | (with_reducible refine Kd.C_drew ?_))); (case side2 => exact (Kd.R_reads' HO136.out).2.1); rintro e w' ⟨rfl, ⟨nd, rfl⟩⟩; refine ⟨_, rfl, ?_⟩) | ((with_reducible refine gate_callee (f := 29) rfl ?_); refine goesL_ (some 44) rfl rfl Try.func29 (by kernel_rfl) rfl #[.int .i64 a3, .int .i64 (t125.length : Int)] rfl (by (try simp only [List.map_toArray, List.map_cons, List.map_nil]); first | done | rfl | (simp only [List.length_drop, List.length_take]; rfl)) ?_; (with_reducible refine (assayerlaw0_Place.calls a3 (t125.length : Int) t140 _ A13.out).mono ?_); rintro e w' ⟨rfl, ⟨nd, rfl⟩⟩; refine ⟨_, rfl, ?_⟩; have q54 : (t140 : Int) ≤ ((t125.length : Int) : Int) := of_decide_eq_true (by first | (with_reducible assumption) | assumption); obtain ⟨i054, hi054, _, hsz54, _⟩ := info_parts info5; have hroom54 : t125.length ≤ co51 := (Kd.R_reads' HO127.out).2.1; have hC54 : Kd.C (Kd.int .u8) _ Ao51 t125.length t125 := (Kd.R_reads' HO127.out).2.2; have hcut54 := cut_to (P := Try.prog) 24 5 .i64 Try.underlying24 hi054 Ao51 t125.length co51 t140 (of_decide_eq_true (by first | (with_reducible assumption) | assumption)) q54 hroom54; have hr54 := Kd.C_take (m := (t140 : Int).toNat) hC54 (by omega); have hy54 : y141.length = (t140 : Int).toNat := (by rw [Ny141.out, List.length_take]; omega); rw [← Ny141.out] at hr54; rw [← hy54] at hcut54; have HR144 := Aside0.mk hr54; have HC144 := Aside0.mk (show y141.length ≤ co51 from by omega); clear hr54 hC54 hroom54 hi054 hsz54; have KY54 := Aside0.mk hy54; clear hy54; have KL54 := Aside0.mk (show (t140 : Int).toNat ≤ t125.length from by omega); replace q54 := eq_true q54) | ((with_reducible refine gate_callee (f := 16) rfl ?_); refine goesL_ (some 46) rfl rfl Try.func16 (by kernel_rfl) rfl #[.slice Ao51 y141.length co51, .int .i64 64] rfl (by (try simp only [List.map_toArray, List.map_cons, List.map_nil]); first | done | rfl | (simp only [List.length_drop, List.length_take]; rfl)) ?_; (with_reducible refine (zig_Take.calls k _ _ y141 64 t145 t146 t147 _ ?side1 ?side2 A16.out).mono ?_); (case side1 => repeat (first | exact (by repeat (first | (with_reducible exact HR144.out) | (with_reducible refine Kd.C_alloc ?_ _) | (with_reducible refine Kd.C_drewN ?_ _) | (with_reducible refine Kd.C_drew ?_) | exact HR144.out)) | (with_reducible refine Kd.C_alloc ?_ _) | (with_reducible refine Kd.C_drewN ?_ _) | (with_reducible refine Kd.C_drew ?_))); (case side2 => exact HC144.out); rintro e w' ⟨rfl, ⟨nd, rfl⟩⟩; refine ⟨_, rfl, ?_⟩))
                      go_ret
                      exact ⟨by first | rfl | (simp [errW_none, errW_some] <;> rfl) | (simp [*, errW_none, errW_some] <;> rfl), by repeat (first | (with_reducible first | exact HB.out | apply below_alloc | apply pw_below_drewN | apply below_drew1) | exact HB.out)⟩
                    · rw [if_neg c45] at H
                      have c45b0 : (t137 == a0) = false := beq_eq_false_iff_ne.mpr c45
                      have c45b1 : (t137 != a0) = true := bne_iff_ne.mpr c45
                      exact absurd (Option.some.inj H) (by rw [hrt]; decide)
                  · rw [if_neg c44] at H
                    have c44b0 : (t139 == 0) = false := beq_eq_false_iff_ne.mpr c44
                    have c44b1 : (t139 != 0) = true := bne_iff_ne.mpr c44
                    exact absurd (Option.some.inj H) (by rw [hrt]; decide)
              · rw [if_neg c17] at H
                have c17b0 : (t147 == 3) = false := beq_eq_false_iff_ne.mpr c17
                have c17b1 : (t147 != 3) = true := bne_iff_ne.mpr c17
                exact absurd (Option.some.inj H) (by rw [hrt]; decide)
            · rw [if_neg c15] at H
              exact absurd H (by simp)
          · rw [if_neg c14] at H
            exact absurd H (by simp)
        · rw [if_neg c11] at H
          exact absurd H (by simp)
      · rw [if_neg c10] at H
        exact absurd H (by simp)
  · replace c6 := Bool.eq_false_iff.mpr c6
    subst c6
    have H1 : (some false) = some r := by rw [if_neg (show ¬ (false = true) by decide)] at H; exact H
    clear H
    have H := H1
    clear H1
    exact absurd (Option.some.inj H) (by rw [hrt]; decide)

/-- THE ONE PURE STATEMENT of assayerlaw2_ZigTakes: yours. -/
def assayerlaw2_ZigTakes.Pure : Prop := ∀ (a0 : Int) (a1 : Int) (l2 : List Int) (a3 : Int), (Lit.int .u64 a0).wf = true → (Lit.int .u8 a1).wf = true → l2.length ≤ maxLen → l2.length * 1 ≤ 140737488351232 → (∀ x ∈ l2, (Lit.int .u8 x).wf = true) → (Lit.int .i64 a3).wf = true → ∃ k, assayerlaw2_ZigTakes.f k a0 a1 l2 a3 = some true
theorem assayerlaw2_ZigTakes.walk (P : assayerlaw2_ZigTakes.Pure) (a0 : Int) (a1 : Int) (a2 : Option Addr) (len2 cap2 : Nat) (z2 : List Int) (a3 : Int) (w : World) (w0 : (Lit.int .u64 a0).wf = true) (w1 : (Lit.int .u8 a1).wf = true) (w2 : (a2 = none ∧ len2 = 0 ∧ cap2 = 0 ∧ z2 = []) ∨ ∃ x, a2 = some x ∧ len2 ≤ cap2 ∧ cap2 ≤ maxLen ∧ z2.length = cap2 ∧ (∀ i, i < z2.length → w.cell? (x.add i) = some (.int .u8 (z2.getD i 0))) ∧ ∀ n ∈ z2, (Lit.int .u8 n).wf = true) (y2 : len2 * 1 ≤ 140737488351232) (w3 : (Lit.int .i64 a3).wf = true) :
    Calls Try.prog 5 #[.int .u64 a0, .int .u8 a1, .slice a2 len2 cap2, .int .i64 a3] w fun e w' => e = .returned (.bool true) ∧ Below w.heap.size w w' := by
  obtain ⟨l2, rfl, hr2, hm2, hw2, hc2⟩ := ReadsInt.ofRowC w2
  obtain ⟨k, h⟩ := P a0 a1 l2 a3 w0 w1 hm2 y2 hw2 w3
  refine (assayerlaw2_ZigTakes.calls k a0 a1 _ _ l2 a3 true w (Kd.C_of_reads (d := (0 : Int)) (h1 := fun _ => rfl) hr2) hc2 h rfl).mono ?_
  rintro e w' ⟨rfl, hd⟩
  exact ⟨rfl, hd⟩

end Go.Proofs.Ythgimjbmjeidpaa.PZig
