-- Written by xprint.py, a program of this session, out of the translation, by way of the kit's printer. Lean checks it.
import Derived.Test.YthgimjbmjeidpaaPOctetx0
import Derived.Test.YthgimjbmjeidpaaPOctetx2
import Derived.Test.YthgimjbmjeidpaaPOctetx3
namespace Go.Proofs.Ythgimjbmjeidpaa.POctet
open Go.RowKit Go.Proofs.YthgimjbmjeidpaaW.PrintWords Go.Proofs.YthgimjbmjeidpaaW.PrintLast Go.Proofs.YthgimjbmjeidpaaW.PrintMore
attribute [local go_sem] max2_int min2_int max_two min_two max_three min_three max_four min_four   -- for this text's walks alone
set_option linter.unusedVariables false
set_option linter.unusedSimpArgs false

/-! ### assayerlaw1_OctetTorn: function 12 -/
def assayerlaw1_OctetTorn.j0 : Nat → List Int → List Int → Int → Int → Bool → Option (Bool)
  | 0, _, _, _, _, _ => none
  | k + 1, x0, x1, x2, x3, x30 => if x30 = true then (some true) else ((octet_Seal.f k x0).bind fun t225 => (if (t225.length : Int) = (wrap64 (7 + (x0.length : Int))) then (if (t225.length : Int) = 0 then (none) else (if 0 ≤ (Int.tmod (wrap64 (x2)) (t225.length : Int)) then (if (Int.tmod (wrap64 (x2)) (t225.length : Int)) ≤ (t225.length : Int) then ((octet_Unseal.f k (t225.take ((Int.tmod (wrap64 (x2)) (t225.length : Int)) : Int).toNat)).bind fun bt232 => (if (wrap64 ((wrap64 (8 * (t225.length : Int))) - 24)) = 0 then (none) else ((some (([] : List Int) : List Int)).bind fun y237 => (if y237.length + t225.length < 140737488355328 then ((some (y237 ++ t225 : List Int)).bind fun y240 => (if 0 ≤ (wrap64 (Int.tdiv (wrap64 (24 + (Int.tmod (wrap64 (x3)) (wrap64 ((wrap64 (8 * (t225.length : Int))) - 24))))) 8)) then (if (wrap64 (Int.tdiv (wrap64 (24 + (Int.tmod (wrap64 (x3)) (wrap64 ((wrap64 (8 * (t225.length : Int))) - 24))))) 8)) < (y240.length : Int) then (if 0 ≤ (Int.tmod (wrap64 (24 + (Int.tmod (wrap64 (x3)) (wrap64 ((wrap64 (8 * (t225.length : Int))) - 24))))) 8) then ((octet_Unseal.f k (y240.set ((wrap64 (Int.tdiv (wrap64 (24 + (Int.tmod (wrap64 (x3)) (wrap64 ((wrap64 (8 * (t225.length : Int))) - 24))))) 8)) : Int).toNat (Go.bits .xor .u8 (rd y240 (wrap64 (Int.tdiv (wrap64 (24 + (Int.tmod (wrap64 (x3)) (wrap64 ((wrap64 (8 * (t225.length : Int))) - 24))))) 8))) (shl .u8 1 (Int.tmod (wrap64 (24 + (Int.tmod (wrap64 (x3)) (wrap64 ((wrap64 (8 * (t225.length : Int))) - 24))))) 8))))).bind fun bt245 => ((some (([] : List Int) : List Int)).bind fun y250 => (if y250.length + t225.length < 140737488355328 then ((some (y250 ++ t225 : List Int)).bind fun y253 => (if y253.length + x1.length < 140737488355328 then ((octet_Unseal.f k (y253 ++ x1)).bind fun bt259 => (if bt232.2.2 = 3 then (if bt232.2.1 = 0 then (if bt245.2.2 = 2 then (if bt245.2.1 = 0 then (if bt259.2.2 = 0 then (if bt259.2.1 = (t225.length : Int) then (some ((strOfNums bt259.1).toList == (strOfNums x0).toList)) else (some false)) else (some false)) else (some false)) else (some false)) else (some false)) else (some false))) else (none))) else (none)))) else (none)) else (none)) else (none))) else (none))))) else (none)) else (none))) else (some false)))
def assayerlaw1_OctetTorn.f (k : Nat) (l0 : List Int) (l1 : List Int) (a2 : Int) (a3 : Int) : Option (Bool) := (assayerlaw1_begun.f).bind fun t224 => (if t224 = true then (if (l0.length : Int) > 80 then (assayerlaw1_OctetTorn.j0 k l0 l1 a2 a3 true) else (assayerlaw1_OctetTorn.j0 k l0 l1 a2 a3 (decide ((l1.length : Int) > 20)))) else (some false))
theorem assayerlaw1_OctetTorn.mono_l : ∀ k, (∀ y0 y1 y2 y3 y4, LeO (assayerlaw1_OctetTorn.j0 k y0 y1 y2 y3 y4) (assayerlaw1_OctetTorn.j0 (k + 1) y0 y1 y2 y3 y4))
  | 0 => fun _ _ _ _ _ r h => by simp [assayerlaw1_OctetTorn.j0] at h
  | k + 1 => by
    have ih0 := assayerlaw1_OctetTorn.mono_l k
    · intro y0 y1 y2 y3 y4
      unfold assayerlaw1_OctetTorn.j0
      repeat' first
      | (with_reducible exact ih0 _ _ _ _ _)
      | (with_reducible exact octet_Seal.mono _ _)
      | (with_reducible exact octet_Unseal.mono _ _)
      | (with_reducible exact LeO.refl _)
      | (with_reducible exact LeO.none _)
      | (with_reducible refine LeO.ite ?_ ?_)
      | (with_reducible refine LeO.bind ?_ (fun _ => ?_))
      | exact ih0 _ _ _ _ _
      | exact octet_Seal.mono _ _
      | exact octet_Unseal.mono _ _
      | exact LeO.none _
      | refine LeO.ite ?_ ?_
      | refine LeO.bind ?_ (fun _ => ?_)
theorem assayerlaw1_OctetTorn.mono : ∀ a0 a1 a2 a3 k, LeO (assayerlaw1_OctetTorn.f k a0 a1 a2 a3) (assayerlaw1_OctetTorn.f (k + 1) a0 a1 a2 a3) := by
  intro a0 a1 a2 a3 k
  have ih0 := assayerlaw1_OctetTorn.mono_l k
  unfold assayerlaw1_OctetTorn.f
  repeat' first
      | (with_reducible exact ih0 _ _ _ _ _)
      | (with_reducible exact octet_Seal.mono _ _)
      | (with_reducible exact octet_Unseal.mono _ _)
      | (with_reducible exact LeO.refl _)
      | (with_reducible exact LeO.none _)
      | (with_reducible refine LeO.ite ?_ ?_)
      | (with_reducible refine LeO.bind ?_ (fun _ => ?_))
      | exact ih0 _ _ _ _ _
      | exact octet_Seal.mono _ _
      | exact octet_Unseal.mono _ _
      | exact LeO.none _
      | refine LeO.ite ?_ ?_
      | refine LeO.bind ?_ (fun _ => ?_)
def assayerlaw1_OctetTorn.T11 : Bool × List (List Nat × List Nat) := (true, [([], []), ([], []), ([1], [1]), ([0, 2], [0, 2]), ([3], [3]), ([], []), ([5], [5]), ([6], [6]), ([4, 7], [4, 7]), ([0, 2, 0, 1, 2, 3, 4, 5, 6, 7, 8], [0, 2]), ([9, 8, 0, 1, 2, 3, 4, 5, 6, 7, 8], [8, 9])])
def assayerlaw1_OctetTorn.B11 : List Nat := [0, 0, 2, 7, 15, 0, 32, 96, 255, 511, 1023]
theorem assayerlaw1_OctetTorn.tab11 : rtab .any (opsOf Try.f12 11) = assayerlaw1_OctetTorn.T11 := by kernel_rfl
theorem assayerlaw1_OctetTorn.bits11 : waitsOk assayerlaw1_OctetTorn.T11.2 assayerlaw1_OctetTorn.B11 = true := by kernel_rfl
set_option maxHeartbeats 8000000 in
set_option maxRecDepth 100000 in
theorem assayerlaw1_OctetTorn.calls (k : Nat) (A0 : Option Addr) (c0 : Nat) (l0 : List Int) (A1 : Option Addr) (c1 : Nat) (l1 : List Int) (a2 : Int) (a3 : Int) (r : Bool) (w : World) (hr0 : Kd.C (Kd.int .u8) w A0 l0.length l0) (hc0 : l0.length ≤ c0) (hr1 : Kd.C (Kd.int .u8) w A1 l1.length l1) (hc1 : l1.length ≤ c1) (h : assayerlaw1_OctetTorn.f k l0 l1 a2 a3 = some r) (hrt : r = true) :
    Calls Try.prog 12 #[.slice A0 l0.length c0, .slice A1 l1.length c1, .int .u16 a2, .int .u16 a3] w fun e w' => e = .returned (.bool r) ∧ Below w.heap.size w w' := by
  have HR0 := Aside0.mk hr0
  have HC0 := Aside0.mk hc0
  clear hr0 hc0
  have HR1 := Aside0.mk hr1
  have HC1 := Aside0.mk hc1
  clear hr1 hc1
  have HB := Aside0.mk (Below.refl w.heap.size w)
  have H : ((assayerlaw1_begun.f).bind fun t224 => (if t224 = true then (if (l0.length : Int) > 80 then (assayerlaw1_OctetTorn.j0 k l0 l1 a2 a3 true) else (assayerlaw1_OctetTorn.j0 k l0 l1 a2 a3 (decide ((l1.length : Int) > 20)))) else (some false))) = some r := h
  clear h
  replace H := Option.bind_eq_some_iff.mp H
  obtain ⟨t224, A50, H⟩ := H
  replace H : (if t224 = true then (if (l0.length : Int) > 80 then (assayerlaw1_OctetTorn.j0 k l0 l1 a2 a3 true) else (assayerlaw1_OctetTorn.j0 k l0 l1 a2 a3 (decide ((l1.length : Int) > 20)))) else (some false)) = some r := H
  have A5 := Aside0.mk A50
  clear A50
  by_cases c6 : t224 = true
  · subst c6
    have H1 : (if (l0.length : Int) > 80 then (assayerlaw1_OctetTorn.j0 k l0 l1 a2 a3 true) else (assayerlaw1_OctetTorn.j0 k l0 l1 a2 a3 (decide ((l1.length : Int) > 20)))) = some r := by rw [if_pos rfl] at H; exact H
    clear H
    have H := H1
    clear H1
    have HC7 := Aside0.mk H
    clear H
    go_enter Try.func12, Try.ntmps12
    go_upto_region 3 with (first | ((with_reducible refine gate_callee (f := 30) rfl ?_); refine goesL_ (some 21) rfl rfl Try.func30 (by kernel_rfl) rfl #[] rfl (by (try simp only [List.map_toArray, List.map_cons, List.map_nil]); first | done | rfl | (simp only [List.length_drop, List.length_take]; rfl)) ?_; (with_reducible refine (assayerlaw1_begun.calls  true _ A5.out).mono ?_); rintro e w8 ⟨rfl, hb⟩; refine ⟨_, rfl, ?_⟩; have n0_ := Aside0.mk (below_step (by repeat (first | (with_reducible first | exact HB.out | apply below_alloc | apply pw_below_drewN | apply below_drew1) | exact HB.out)) hb); clear HB; have HB := n0_; clear n0_; (try clear hb); (try clear hb2); (try clear hk); (try clear hi)))
    (try simp only [Act.put, List.setIfInBounds_toArray, List.set_cons_zero, List.set_cons_succ])
    go_cut [30] (fun v30 wc => ∃ (kq : Nat) (x30_6 : Bool), v30 = .bool x30_6 ∧ Aside0 (assayerlaw1_OctetTorn.j0 kq l0 l1 a2 a3 x30_6 = some r) ∧ Aside0 (kq ≤ k) ∧ Aside0 (Below w.heap.size w wc))
    case first =>
      have H := HC7.out
      clear HC7
      by_cases c9 : (l0.length : Int) > 80
      · rw [if_pos c9] at H
        have c9b0 : decide (80 < (l0.length : Int)) = true := decide_eq_true c9
        have c9b1 : decide (80 < l0.length) = true := decide_eq_true (by omega)
        clear c9
        (first | rw [c9b0] | (simp only [i64_w, i32_w]; rw [c9b0]) | skip)
        have H' := Aside0.mk H
        clear H
        go_wp2
        go_meet
        case rel => exact ⟨_, (true), (by first | rfl | (simp; done) | (simp [*]; done)), H', ⟨by first | omega | exact Nat.le_refl _⟩, ⟨by repeat (first | (with_reducible first | exact HB.out | apply below_alloc | apply pw_below_drewN | apply below_drew1) | exact HB.out)⟩⟩
      · rw [if_neg c9] at H
        have c9b0 : decide (80 < (l0.length : Int)) = false := decide_eq_false c9
        have c9b1 : decide (80 < l0.length) = false := decide_eq_false (by omega)
        clear c9
        (first | rw [c9b0] | (simp only [i64_w, i32_w]; rw [c9b0]) | skip)
        have H' := Aside0.mk H
        clear H
        go_wp2
        go_meet
        case rel => exact ⟨_, (decide ((l1.length : Int) > 20)), (by first | rfl | (simp; done) | (simp [*]; done)), H', ⟨by first | omega | exact Nat.le_refl _⟩, ⟨by repeat (first | (with_reducible first | exact HB.out | apply below_alloc | apply pw_below_drewN | apply below_drew1) | exact HB.out)⟩⟩
    case rest =>
      clear HC7
      try clear c1
      try clear p2
      try clear c3
      try clear c6
      try clear c9
      try clear c9b0
      try clear c9b1
      obtain ⟨kq, x30_6, rfl, HA, HJ6, HB⟩ := hcut
      cases kq with
      | zero => exact absurd HA.out (by simp [assayerlaw1_OctetTorn.j0])
      | succ kj6 =>
        have H := HA.out
        clear HA
        simp only [assayerlaw1_OctetTorn.j0] at H
        by_cases c10 : x30_6 = true
        · subst c10
          have H1 : (some true) = some r := by rw [if_pos rfl] at H; exact H
          clear H
          have H := H1
          clear H1
          obtain rfl := Option.some.inj H
          go_wp2
          go_ret
          exact ⟨by first | rfl | (simp [errW_none, errW_some] <;> rfl) | (simp [*, errW_none, errW_some] <;> rfl), by repeat (first | (with_reducible first | exact HB.out | apply below_alloc | apply pw_below_drewN | apply below_drew1) | exact HB.out)⟩
        · replace c10 := Bool.eq_false_iff.mpr c10
          subst c10
          have H1 : ((octet_Seal.f kj6 l0).bind fun t225 => (if (t225.length : Int) = (wrap64 (7 + (l0.length : Int))) then (if (t225.length : Int) = 0 then (none) else (if 0 ≤ (Int.tmod (wrap64 (a2)) (t225.length : Int)) then (if (Int.tmod (wrap64 (a2)) (t225.length : Int)) ≤ (t225.length : Int) then ((octet_Unseal.f kj6 (t225.take ((Int.tmod (wrap64 (a2)) (t225.length : Int)) : Int).toNat)).bind fun bt232 => (if (wrap64 ((wrap64 (8 * (t225.length : Int))) - 24)) = 0 then (none) else ((some (([] : List Int) : List Int)).bind fun y237 => (if y237.length + t225.length < 140737488355328 then ((some (y237 ++ t225 : List Int)).bind fun y240 => (if 0 ≤ (wrap64 (Int.tdiv (wrap64 (24 + (Int.tmod (wrap64 (a3)) (wrap64 ((wrap64 (8 * (t225.length : Int))) - 24))))) 8)) then (if (wrap64 (Int.tdiv (wrap64 (24 + (Int.tmod (wrap64 (a3)) (wrap64 ((wrap64 (8 * (t225.length : Int))) - 24))))) 8)) < (y240.length : Int) then (if 0 ≤ (Int.tmod (wrap64 (24 + (Int.tmod (wrap64 (a3)) (wrap64 ((wrap64 (8 * (t225.length : Int))) - 24))))) 8) then ((octet_Unseal.f kj6 (y240.set ((wrap64 (Int.tdiv (wrap64 (24 + (Int.tmod (wrap64 (a3)) (wrap64 ((wrap64 (8 * (t225.length : Int))) - 24))))) 8)) : Int).toNat (Go.bits .xor .u8 (rd y240 (wrap64 (Int.tdiv (wrap64 (24 + (Int.tmod (wrap64 (a3)) (wrap64 ((wrap64 (8 * (t225.length : Int))) - 24))))) 8))) (shl .u8 1 (Int.tmod (wrap64 (24 + (Int.tmod (wrap64 (a3)) (wrap64 ((wrap64 (8 * (t225.length : Int))) - 24))))) 8))))).bind fun bt245 => ((some (([] : List Int) : List Int)).bind fun y250 => (if y250.length + t225.length < 140737488355328 then ((some (y250 ++ t225 : List Int)).bind fun y253 => (if y253.length + l1.length < 140737488355328 then ((octet_Unseal.f kj6 (y253 ++ l1)).bind fun bt259 => (if bt232.2.2 = 3 then (if bt232.2.1 = 0 then (if bt245.2.2 = 2 then (if bt245.2.1 = 0 then (if bt259.2.2 = 0 then (if bt259.2.1 = (t225.length : Int) then (some ((strOfNums bt259.1).toList == (strOfNums l0).toList)) else (some false)) else (some false)) else (some false)) else (some false)) else (some false)) else (some false))) else (none))) else (none)))) else (none)) else (none)) else (none))) else (none))))) else (none)) else (none))) else (some false))) = some r := by rw [if_neg (show ¬ (false = true) by decide)] at H; exact H
          clear H
          have H := H1
          clear H1
          replace H := Option.bind_eq_some_iff.mp H
          obtain ⟨t225, A110, H⟩ := H
          replace H : (if (t225.length : Int) = (wrap64 (7 + (l0.length : Int))) then (if (t225.length : Int) = 0 then (none) else (if 0 ≤ (Int.tmod (wrap64 (a2)) (t225.length : Int)) then (if (Int.tmod (wrap64 (a2)) (t225.length : Int)) ≤ (t225.length : Int) then ((octet_Unseal.f kj6 (t225.take ((Int.tmod (wrap64 (a2)) (t225.length : Int)) : Int).toNat)).bind fun bt232 => (if (wrap64 ((wrap64 (8 * (t225.length : Int))) - 24)) = 0 then (none) else ((some (([] : List Int) : List Int)).bind fun y237 => (if y237.length + t225.length < 140737488355328 then ((some (y237 ++ t225 : List Int)).bind fun y240 => (if 0 ≤ (wrap64 (Int.tdiv (wrap64 (24 + (Int.tmod (wrap64 (a3)) (wrap64 ((wrap64 (8 * (t225.length : Int))) - 24))))) 8)) then (if (wrap64 (Int.tdiv (wrap64 (24 + (Int.tmod (wrap64 (a3)) (wrap64 ((wrap64 (8 * (t225.length : Int))) - 24))))) 8)) < (y240.length : Int) then (if 0 ≤ (Int.tmod (wrap64 (24 + (Int.tmod (wrap64 (a3)) (wrap64 ((wrap64 (8 * (t225.length : Int))) - 24))))) 8) then ((octet_Unseal.f kj6 (y240.set ((wrap64 (Int.tdiv (wrap64 (24 + (Int.tmod (wrap64 (a3)) (wrap64 ((wrap64 (8 * (t225.length : Int))) - 24))))) 8)) : Int).toNat (Go.bits .xor .u8 (rd y240 (wrap64 (Int.tdiv (wrap64 (24 + (Int.tmod (wrap64 (a3)) (wrap64 ((wrap64 (8 * (t225.length : Int))) - 24))))) 8))) (shl .u8 1 (Int.tmod (wrap64 (24 + (Int.tmod (wrap64 (a3)) (wrap64 ((wrap64 (8 * (t225.length : Int))) - 24))))) 8))))).bind fun bt245 => ((some (([] : List Int) : List Int)).bind fun y250 => (if y250.length + t225.length < 140737488355328 then ((some (y250 ++ t225 : List Int)).bind fun y253 => (if y253.length + l1.length < 140737488355328 then ((octet_Unseal.f kj6 (y253 ++ l1)).bind fun bt259 => (if bt232.2.2 = 3 then (if bt232.2.1 = 0 then (if bt245.2.2 = 2 then (if bt245.2.1 = 0 then (if bt259.2.2 = 0 then (if bt259.2.1 = (t225.length : Int) then (some ((strOfNums bt259.1).toList == (strOfNums l0).toList)) else (some false)) else (some false)) else (some false)) else (some false)) else (some false)) else (some false))) else (none))) else (none)))) else (none)) else (none)) else (none))) else (none))))) else (none)) else (none))) else (some false)) = some r := H
          have A11 := Aside0.mk A110
          clear A110
          by_cases c12 : (t225.length : Int) = (wrap64 (7 + (l0.length : Int)))
          · rw [if_pos c12] at H
            have c12b0 : ((t225.length : Int) == (wrap64 (7 + (l0.length : Int)))) = true := beq_iff_eq.mpr c12
            have c12b1 : ((t225.length : Int) != (wrap64 (7 + (l0.length : Int)))) = false := bne_eq_false_iff_eq.mpr c12
            clear c12
            by_cases c13 : (t225.length : Int) = 0
            · rw [if_pos c13] at H
              exact absurd H (by simp)
            · rw [if_neg c13] at H
              have c13b0 : ((t225.length : Int) == 0) = false := beq_eq_false_iff_ne.mpr c13
              have c13b1 : ((t225.length : Int) != 0) = true := bne_iff_ne.mpr c13
              have c13b2 : ¬ (t225 = []) := fun h_ => c13 (by rw [h_]; rfl)
              obtain ⟨ji14, hji14⟩ : ∃ j_ : Int, (Int.tmod (wrap64 (a2)) (t225.length : Int)) = j_ := ⟨_, rfl⟩
              replace H : (if 0 ≤ (ji14) then (if (ji14) ≤ (t225.length : Int) then ((octet_Unseal.f kj6 (t225.take ((ji14) : Int).toNat)).bind fun bt232 => (if (wrap64 ((wrap64 (8 * (t225.length : Int))) - 24)) = 0 then (none) else ((some (([] : List Int) : List Int)).bind fun y237 => (if y237.length + t225.length < 140737488355328 then ((some (y237 ++ t225 : List Int)).bind fun y240 => (if 0 ≤ (wrap64 (Int.tdiv (wrap64 (24 + (Int.tmod (wrap64 (a3)) (wrap64 ((wrap64 (8 * (t225.length : Int))) - 24))))) 8)) then (if (wrap64 (Int.tdiv (wrap64 (24 + (Int.tmod (wrap64 (a3)) (wrap64 ((wrap64 (8 * (t225.length : Int))) - 24))))) 8)) < (y240.length : Int) then (if 0 ≤ (Int.tmod (wrap64 (24 + (Int.tmod (wrap64 (a3)) (wrap64 ((wrap64 (8 * (t225.length : Int))) - 24))))) 8) then ((octet_Unseal.f kj6 (y240.set ((wrap64 (Int.tdiv (wrap64 (24 + (Int.tmod (wrap64 (a3)) (wrap64 ((wrap64 (8 * (t225.length : Int))) - 24))))) 8)) : Int).toNat (Go.bits .xor .u8 (rd y240 (wrap64 (Int.tdiv (wrap64 (24 + (Int.tmod (wrap64 (a3)) (wrap64 ((wrap64 (8 * (t225.length : Int))) - 24))))) 8))) (shl .u8 1 (Int.tmod (wrap64 (24 + (Int.tmod (wrap64 (a3)) (wrap64 ((wrap64 (8 * (t225.length : Int))) - 24))))) 8))))).bind fun bt245 => ((some (([] : List Int) : List Int)).bind fun y250 => (if y250.length + t225.length < 140737488355328 then ((some (y250 ++ t225 : List Int)).bind fun y253 => (if y253.length + l1.length < 140737488355328 then ((octet_Unseal.f kj6 (y253 ++ l1)).bind fun bt259 => (if bt232.2.2 = 3 then (if bt232.2.1 = 0 then (if bt245.2.2 = 2 then (if bt245.2.1 = 0 then (if bt259.2.2 = 0 then (if bt259.2.1 = (t225.length : Int) then (some ((strOfNums bt259.1).toList == (strOfNums l0).toList)) else (some false)) else (some false)) else (some false)) else (some false)) else (some false)) else (some false))) else (none))) else (none)))) else (none)) else (none)) else (none))) else (none))))) else (none)) else (none)) = some r := by first | (rw [hji14] at H; exact H) | (simp only [hji14] at H ⊢; exact H)
              (try rw [hji14] at A11)
              by_cases c15 : 0 ≤ (ji14)
              · rw [if_pos c15] at H
                have c15b0 := eq_true c15
                have c15b1 : decide (0 ≤ (ji14)) = true := decide_eq_true c15
                clear c15
                by_cases c16 : (ji14) ≤ (t225.length : Int)
                · rw [if_pos c16] at H
                  have c16b0 := eq_true c16
                  have c16b1 : decide ((ji14) ≤ (t225.length : Int)) = true := decide_eq_true c16
                  clear c16
                  obtain ⟨y228, hy228⟩ : ∃ y_ : List Int, y_ = (t225.take ((ji14) : Int).toNat) := ⟨_, rfl⟩
                  replace H : ((octet_Unseal.f kj6 y228).bind fun bt232 => (if (wrap64 ((wrap64 (8 * (t225.length : Int))) - 24)) = 0 then (none) else ((some (([] : List Int) : List Int)).bind fun y237 => (if y237.length + t225.length < 140737488355328 then ((some (y237 ++ t225 : List Int)).bind fun y240 => (if 0 ≤ (wrap64 (Int.tdiv (wrap64 (24 + (Int.tmod (wrap64 (a3)) (wrap64 ((wrap64 (8 * (t225.length : Int))) - 24))))) 8)) then (if (wrap64 (Int.tdiv (wrap64 (24 + (Int.tmod (wrap64 (a3)) (wrap64 ((wrap64 (8 * (t225.length : Int))) - 24))))) 8)) < (y240.length : Int) then (if 0 ≤ (Int.tmod (wrap64 (24 + (Int.tmod (wrap64 (a3)) (wrap64 ((wrap64 (8 * (t225.length : Int))) - 24))))) 8) then ((octet_Unseal.f kj6 (y240.set ((wrap64 (Int.tdiv (wrap64 (24 + (Int.tmod (wrap64 (a3)) (wrap64 ((wrap64 (8 * (t225.length : Int))) - 24))))) 8)) : Int).toNat (Go.bits .xor .u8 (rd y240 (wrap64 (Int.tdiv (wrap64 (24 + (Int.tmod (wrap64 (a3)) (wrap64 ((wrap64 (8 * (t225.length : Int))) - 24))))) 8))) (shl .u8 1 (Int.tmod (wrap64 (24 + (Int.tmod (wrap64 (a3)) (wrap64 ((wrap64 (8 * (t225.length : Int))) - 24))))) 8))))).bind fun bt245 => ((some (([] : List Int) : List Int)).bind fun y250 => (if y250.length + t225.length < 140737488355328 then ((some (y250 ++ t225 : List Int)).bind fun y253 => (if y253.length + l1.length < 140737488355328 then ((octet_Unseal.f kj6 (y253 ++ l1)).bind fun bt259 => (if bt232.2.2 = 3 then (if bt232.2.1 = 0 then (if bt245.2.2 = 2 then (if bt245.2.1 = 0 then (if bt259.2.2 = 0 then (if bt259.2.1 = (t225.length : Int) then (some ((strOfNums bt259.1).toList == (strOfNums l0).toList)) else (some false)) else (some false)) else (some false)) else (some false)) else (some false)) else (some false))) else (none))) else (none)))) else (none)) else (none)) else (none))) else (none))))) = some r := by first | (rw [hy228]; with_reducible exact H) | (have H2_ := (Option.bind_some _ _).symm.trans H; rw [hy228]; with_reducible exact H2_) | (have H2_ := (Option.bind_some _ _).symm.trans H; with_reducible exact H2_) | with_reducible exact H | (rw [hy228]; exact H) | exact H
                  have Ny228 := Aside0.mk hy228
                  clear hy228
                  replace H := Option.bind_eq_some_iff.mp H
                  obtain ⟨⟨t232, t233, t234⟩, A170, H⟩ := H
                  replace H : (if (wrap64 ((wrap64 (8 * (t225.length : Int))) - 24)) = 0 then (none) else ((some (([] : List Int) : List Int)).bind fun y237 => (if y237.length + t225.length < 140737488355328 then ((some (y237 ++ t225 : List Int)).bind fun y240 => (if 0 ≤ (wrap64 (Int.tdiv (wrap64 (24 + (Int.tmod (wrap64 (a3)) (wrap64 ((wrap64 (8 * (t225.length : Int))) - 24))))) 8)) then (if (wrap64 (Int.tdiv (wrap64 (24 + (Int.tmod (wrap64 (a3)) (wrap64 ((wrap64 (8 * (t225.length : Int))) - 24))))) 8)) < (y240.length : Int) then (if 0 ≤ (Int.tmod (wrap64 (24 + (Int.tmod (wrap64 (a3)) (wrap64 ((wrap64 (8 * (t225.length : Int))) - 24))))) 8) then ((octet_Unseal.f kj6 (y240.set ((wrap64 (Int.tdiv (wrap64 (24 + (Int.tmod (wrap64 (a3)) (wrap64 ((wrap64 (8 * (t225.length : Int))) - 24))))) 8)) : Int).toNat (Go.bits .xor .u8 (rd y240 (wrap64 (Int.tdiv (wrap64 (24 + (Int.tmod (wrap64 (a3)) (wrap64 ((wrap64 (8 * (t225.length : Int))) - 24))))) 8))) (shl .u8 1 (Int.tmod (wrap64 (24 + (Int.tmod (wrap64 (a3)) (wrap64 ((wrap64 (8 * (t225.length : Int))) - 24))))) 8))))).bind fun bt245 => ((some (([] : List Int) : List Int)).bind fun y250 => (if y250.length + t225.length < 140737488355328 then ((some (y250 ++ t225 : List Int)).bind fun y253 => (if y253.length + l1.length < 140737488355328 then ((octet_Unseal.f kj6 (y253 ++ l1)).bind fun bt259 => (if t234 = 3 then (if t233 = 0 then (if bt245.2.2 = 2 then (if bt245.2.1 = 0 then (if bt259.2.2 = 0 then (if bt259.2.1 = (t225.length : Int) then (some ((strOfNums bt259.1).toList == (strOfNums l0).toList)) else (some false)) else (some false)) else (some false)) else (some false)) else (some false)) else (some false))) else (none))) else (none)))) else (none)) else (none)) else (none))) else (none)))) = some r := H
                  have A17 := Aside0.mk A170
                  clear A170
                  by_cases c18 : (wrap64 ((wrap64 (8 * (t225.length : Int))) - 24)) = 0
                  · rw [if_pos c18] at H
                    exact absurd H (by simp)
                  · rw [if_neg c18] at H
                    have c18b0 : ((wrap64 ((wrap64 (8 * (t225.length : Int))) - 24)) == 0) = false := beq_eq_false_iff_ne.mpr c18
                    have c18b1 : ((wrap64 ((wrap64 (8 * (t225.length : Int))) - 24)) != 0) = true := bne_iff_ne.mpr c18
                    obtain ⟨y237, hy237⟩ : ∃ y_ : List Int, y_ = (([] : List Int)) := ⟨_, rfl⟩
                    replace H : (if y237.length + t225.length < 140737488355328 then ((some (y237 ++ t225 : List Int)).bind fun y240 => (if 0 ≤ (wrap64 (Int.tdiv (wrap64 (24 + (Int.tmod (wrap64 (a3)) (wrap64 ((wrap64 (8 * (t225.length : Int))) - 24))))) 8)) then (if (wrap64 (Int.tdiv (wrap64 (24 + (Int.tmod (wrap64 (a3)) (wrap64 ((wrap64 (8 * (t225.length : Int))) - 24))))) 8)) < (y240.length : Int) then (if 0 ≤ (Int.tmod (wrap64 (24 + (Int.tmod (wrap64 (a3)) (wrap64 ((wrap64 (8 * (t225.length : Int))) - 24))))) 8) then ((octet_Unseal.f kj6 (y240.set ((wrap64 (Int.tdiv (wrap64 (24 + (Int.tmod (wrap64 (a3)) (wrap64 ((wrap64 (8 * (t225.length : Int))) - 24))))) 8)) : Int).toNat (Go.bits .xor .u8 (rd y240 (wrap64 (Int.tdiv (wrap64 (24 + (Int.tmod (wrap64 (a3)) (wrap64 ((wrap64 (8 * (t225.length : Int))) - 24))))) 8))) (shl .u8 1 (Int.tmod (wrap64 (24 + (Int.tmod (wrap64 (a3)) (wrap64 ((wrap64 (8 * (t225.length : Int))) - 24))))) 8))))).bind fun bt245 => ((some (([] : List Int) : List Int)).bind fun y250 => (if y250.length + t225.length < 140737488355328 then ((some (y250 ++ t225 : List Int)).bind fun y253 => (if y253.length + l1.length < 140737488355328 then ((octet_Unseal.f kj6 (y253 ++ l1)).bind fun bt259 => (if t234 = 3 then (if t233 = 0 then (if bt245.2.2 = 2 then (if bt245.2.1 = 0 then (if bt259.2.2 = 0 then (if bt259.2.1 = (t225.length : Int) then (some ((strOfNums bt259.1).toList == (strOfNums l0).toList)) else (some false)) else (some false)) else (some false)) else (some false)) else (some false)) else (some false))) else (none))) else (none)))) else (none)) else (none)) else (none))) else (none)) = some r := by first | (rw [hy237]; with_reducible exact H) | (have H2_ := (Option.bind_some _ _).symm.trans H; rw [hy237]; with_reducible exact H2_) | (have H2_ := (Option.bind_some _ _).symm.trans H; with_reducible exact H2_) | with_reducible exact H | (rw [hy237]; exact H) | exact H
                    have Ny237 := Aside0.mk hy237
                    clear hy237
                    by_cases c19 : y237.length + t225.length < 140737488355328
                    · rw [if_pos c19] at H
                      have LMc19 := Aside0.mk c19
                      clear c19
                      obtain ⟨y240, hy240⟩ : ∃ y_ : List Int, y_ = (y237 ++ t225) := ⟨_, rfl⟩
                      replace H : (if 0 ≤ (wrap64 (Int.tdiv (wrap64 (24 + (Int.tmod (wrap64 (a3)) (wrap64 ((wrap64 (8 * (t225.length : Int))) - 24))))) 8)) then (if (wrap64 (Int.tdiv (wrap64 (24 + (Int.tmod (wrap64 (a3)) (wrap64 ((wrap64 (8 * (t225.length : Int))) - 24))))) 8)) < (y240.length : Int) then (if 0 ≤ (Int.tmod (wrap64 (24 + (Int.tmod (wrap64 (a3)) (wrap64 ((wrap64 (8 * (t225.length : Int))) - 24))))) 8) then ((octet_Unseal.f kj6 (y240.set ((wrap64 (Int.tdiv (wrap64 (24 + (Int.tmod (wrap64 (a3)) (wrap64 ((wrap64 (8 * (t225.length : Int))) - 24))))) 8)) : Int).toNat (Go.bits .xor .u8 (rd y240 (wrap64 (Int.tdiv (wrap64 (24 + (Int.tmod (wrap64 (a3)) (wrap64 ((wrap64 (8 * (t225.length : Int))) - 24))))) 8))) (shl .u8 1 (Int.tmod (wrap64 (24 + (Int.tmod (wrap64 (a3)) (wrap64 ((wrap64 (8 * (t225.length : Int))) - 24))))) 8))))).bind fun bt245 => ((some (([] : List Int) : List Int)).bind fun y250 => (if y250.length + t225.length < 140737488355328 then ((some (y250 ++ t225 : List Int)).bind fun y253 => (if y253.length + l1.length < 140737488355328 then ((octet_Unseal.f kj6 (y253 ++ l1)).bind fun bt259 => (if t234 = 3 then (if t233 = 0 then (if bt245.2.2 = 2 then (if bt245.2.1 = 0 then (if bt259.2.2 = 0 then (if bt259.2.1 = (t225.length : Int) then (some ((strOfNums bt259.1).toList == (strOfNums l0).toList)) else (some false)) else (some false)) else (some false)) else (some false)) else (some false)) else (some false))) else (none))) else (none)))) else (none)) else (none)) else (none)) = some r := by first | (rw [hy240]; with_reducible exact H) | (have H2_ := (Option.bind_some _ _).symm.trans H; rw [hy240]; with_reducible exact H2_) | (have H2_ := (Option.bind_some _ _).symm.trans H; with_reducible exact H2_) | with_reducible exact H | (rw [hy240]; exact H) | exact H
                      have Ny240 := Aside0.mk hy240
                      clear hy240
                      obtain ⟨ji20, hji20⟩ : ∃ j_ : Int, (wrap64 (Int.tdiv (wrap64 (24 + (Int.tmod (wrap64 (a3)) (wrap64 ((wrap64 (8 * (t225.length : Int))) - 24))))) 8)) = j_ := ⟨_, rfl⟩
                      replace H : (if 0 ≤ (ji20) then (if (ji20) < (y240.length : Int) then (if 0 ≤ (Int.tmod (wrap64 (24 + (Int.tmod (wrap64 (a3)) (wrap64 ((wrap64 (8 * (t225.length : Int))) - 24))))) 8) then ((octet_Unseal.f kj6 (y240.set ((ji20) : Int).toNat (Go.bits .xor .u8 (rd y240 (ji20)) (shl .u8 1 (Int.tmod (wrap64 (24 + (Int.tmod (wrap64 (a3)) (wrap64 ((wrap64 (8 * (t225.length : Int))) - 24))))) 8))))).bind fun bt245 => ((some (([] : List Int) : List Int)).bind fun y250 => (if y250.length + t225.length < 140737488355328 then ((some (y250 ++ t225 : List Int)).bind fun y253 => (if y253.length + l1.length < 140737488355328 then ((octet_Unseal.f kj6 (y253 ++ l1)).bind fun bt259 => (if t234 = 3 then (if t233 = 0 then (if bt245.2.2 = 2 then (if bt245.2.1 = 0 then (if bt259.2.2 = 0 then (if bt259.2.1 = (t225.length : Int) then (some ((strOfNums bt259.1).toList == (strOfNums l0).toList)) else (some false)) else (some false)) else (some false)) else (some false)) else (some false)) else (some false))) else (none))) else (none)))) else (none)) else (none)) else (none)) = some r := by first | (rw [hji20] at H; exact H) | (simp only [hji20] at H ⊢; exact H)
                      (try rw [hji20] at A11)
                      (try rw [hji20] at A17)
                      have hji20w : (IntKind.i64.wrap (Int.tdiv (wrap64 (24 + (Int.tmod (wrap64 (a3)) (wrap64 ((wrap64 (8 * (t225.length : Int))) - 24))))) 8)) = ji20 := (i64_w _).trans hji20
                      by_cases c21 : 0 ≤ (ji20)
                      · rw [if_pos c21] at H
                        have c21b0 : decide (0 ≤ (ji20)) = true := decide_eq_true c21
                        clear c21
                        by_cases c22 : (ji20) < (y240.length : Int)
                        · rw [if_pos c22] at H
                          have c22b0 : decide ((ji20) < (y240.length : Int)) = true := decide_eq_true c22
                          clear c22
                          obtain ⟨ji23, hji23⟩ : ∃ j_ : Int, (Int.tmod (wrap64 (24 + (Int.tmod (wrap64 (a3)) (wrap64 ((wrap64 (8 * (t225.length : Int))) - 24))))) 8) = j_ := ⟨_, rfl⟩
                          replace H : (if 0 ≤ (ji23) then ((octet_Unseal.f kj6 (y240.set ((ji20) : Int).toNat (Go.bits .xor .u8 (rd y240 (ji20)) (shl .u8 1 (ji23))))).bind fun bt245 => ((some (([] : List Int) : List Int)).bind fun y250 => (if y250.length + t225.length < 140737488355328 then ((some (y250 ++ t225 : List Int)).bind fun y253 => (if y253.length + l1.length < 140737488355328 then ((octet_Unseal.f kj6 (y253 ++ l1)).bind fun bt259 => (if t234 = 3 then (if t233 = 0 then (if bt245.2.2 = 2 then (if bt245.2.1 = 0 then (if bt259.2.2 = 0 then (if bt259.2.1 = (t225.length : Int) then (some ((strOfNums bt259.1).toList == (strOfNums l0).toList)) else (some false)) else (some false)) else (some false)) else (some false)) else (some false)) else (some false))) else (none))) else (none)))) else (none)) = some r := by first | (rw [hji23] at H; exact H) | (simp only [hji23] at H ⊢; exact H)
                          (try rw [hji23] at A11)
                          (try rw [hji23] at A17)
                          by_cases c24 : 0 ≤ (ji23)
                          · rw [if_pos c24] at H
                            have c24b0 := eq_true c24
                            have c24b1 : decide (0 ≤ (ji23)) = true := decide_eq_true c24
                            clear c24
                            obtain ⟨ji25, hji25⟩ : ∃ j_ : Int, (shl .u8 1 (ji23)) = j_ := ⟨_, rfl⟩
                            replace H : ((octet_Unseal.f kj6 (y240.set ((ji20) : Int).toNat (Go.bits .xor .u8 (rd y240 (ji20)) (ji25)))).bind fun bt245 => ((some (([] : List Int) : List Int)).bind fun y250 => (if y250.length + t225.length < 140737488355328 then ((some (y250 ++ t225 : List Int)).bind fun y253 => (if y253.length + l1.length < 140737488355328 then ((octet_Unseal.f kj6 (y253 ++ l1)).bind fun bt259 => (if t234 = 3 then (if t233 = 0 then (if bt245.2.2 = 2 then (if bt245.2.1 = 0 then (if bt259.2.2 = 0 then (if bt259.2.1 = (t225.length : Int) then (some ((strOfNums bt259.1).toList == (strOfNums l0).toList)) else (some false)) else (some false)) else (some false)) else (some false)) else (some false)) else (some false))) else (none))) else (none)))) = some r := by first | (rw [hji25] at H; exact H) | (simp only [hji25] at H ⊢; exact H)
                            (try rw [hji25] at A11)
                            (try rw [hji25] at A17)
                            have hji25_ : (IntKind.u8.wrap (1 * 2 ^ min (ji23).toNat 8)) = ji25 := hji25
                            have hji25z : (ji23) ≤ 8 → (IntKind.u8.wrap (1 * 2 ^ (ji23).toNat)) = ji25 := shl_small hji25
                            have hji25u : (IntKind.u8.wrap (2 ^ min (ji23).toNat 8)) = ji25 := by have h_ := hji25_; rw [Int.one_mul] at h_; exact h_
                            have hji25v : (ji23) ≤ 8 → (IntKind.u8.wrap (2 ^ (ji23).toNat)) = ji25 := fun hle_ => by have h_ := hji25z hle_; rw [Int.one_mul] at h_; exact h_
                            obtain ⟨y244, hy244⟩ : ∃ y_ : List Int, y_ = (y240.set ((ji20) : Int).toNat (Go.bits .xor .u8 (rd y240 (ji20)) (ji25))) := ⟨_, rfl⟩
                            replace H : ((octet_Unseal.f kj6 y244).bind fun bt245 => ((some (([] : List Int) : List Int)).bind fun y250 => (if y250.length + t225.length < 140737488355328 then ((some (y250 ++ t225 : List Int)).bind fun y253 => (if y253.length + l1.length < 140737488355328 then ((octet_Unseal.f kj6 (y253 ++ l1)).bind fun bt259 => (if t234 = 3 then (if t233 = 0 then (if bt245.2.2 = 2 then (if bt245.2.1 = 0 then (if bt259.2.2 = 0 then (if bt259.2.1 = (t225.length : Int) then (some ((strOfNums bt259.1).toList == (strOfNums l0).toList)) else (some false)) else (some false)) else (some false)) else (some false)) else (some false)) else (some false))) else (none))) else (none)))) = some r := by first | (rw [hy244]; with_reducible exact H) | (have H2_ := (Option.bind_some _ _).symm.trans H; rw [hy244]; with_reducible exact H2_) | (have H2_ := (Option.bind_some _ _).symm.trans H; with_reducible exact H2_) | with_reducible exact H | (rw [hy244]; exact H) | exact H
                            have Ny244 := Aside0.mk hy244
                            clear hy244
                            replace H := Option.bind_eq_some_iff.mp H
                            obtain ⟨⟨t245, t246, t247⟩, A270, H⟩ := H
                            replace H : ((some (([] : List Int) : List Int)).bind fun y250 => (if y250.length + t225.length < 140737488355328 then ((some (y250 ++ t225 : List Int)).bind fun y253 => (if y253.length + l1.length < 140737488355328 then ((octet_Unseal.f kj6 (y253 ++ l1)).bind fun bt259 => (if t234 = 3 then (if t233 = 0 then (if t247 = 2 then (if t246 = 0 then (if bt259.2.2 = 0 then (if bt259.2.1 = (t225.length : Int) then (some ((strOfNums bt259.1).toList == (strOfNums l0).toList)) else (some false)) else (some false)) else (some false)) else (some false)) else (some false)) else (some false))) else (none))) else (none))) = some r := H
                            have A27 := Aside0.mk A270
                            clear A270
                            obtain ⟨y250, hy250⟩ : ∃ y_ : List Int, y_ = (([] : List Int)) := ⟨_, rfl⟩
                            replace H : (if y250.length + t225.length < 140737488355328 then ((some (y250 ++ t225 : List Int)).bind fun y253 => (if y253.length + l1.length < 140737488355328 then ((octet_Unseal.f kj6 (y253 ++ l1)).bind fun bt259 => (if t234 = 3 then (if t233 = 0 then (if t247 = 2 then (if t246 = 0 then (if bt259.2.2 = 0 then (if bt259.2.1 = (t225.length : Int) then (some ((strOfNums bt259.1).toList == (strOfNums l0).toList)) else (some false)) else (some false)) else (some false)) else (some false)) else (some false)) else (some false))) else (none))) else (none)) = some r := by first | (rw [hy250]; with_reducible exact H) | (have H2_ := (Option.bind_some _ _).symm.trans H; rw [hy250]; with_reducible exact H2_) | (have H2_ := (Option.bind_some _ _).symm.trans H; with_reducible exact H2_) | with_reducible exact H | (rw [hy250]; exact H) | exact H
                            have Ny250 := Aside0.mk hy250
                            clear hy250
                            by_cases c28 : y250.length + t225.length < 140737488355328
                            · rw [if_pos c28] at H
                              have LMc28 := Aside0.mk c28
                              clear c28
                              obtain ⟨y253, hy253⟩ : ∃ y_ : List Int, y_ = (y250 ++ t225) := ⟨_, rfl⟩
                              replace H : (if y253.length + l1.length < 140737488355328 then ((octet_Unseal.f kj6 (y253 ++ l1)).bind fun bt259 => (if t234 = 3 then (if t233 = 0 then (if t247 = 2 then (if t246 = 0 then (if bt259.2.2 = 0 then (if bt259.2.1 = (t225.length : Int) then (some ((strOfNums bt259.1).toList == (strOfNums l0).toList)) else (some false)) else (some false)) else (some false)) else (some false)) else (some false)) else (some false))) else (none)) = some r := by first | (rw [hy253]; with_reducible exact H) | (have H2_ := (Option.bind_some _ _).symm.trans H; rw [hy253]; with_reducible exact H2_) | (have H2_ := (Option.bind_some _ _).symm.trans H; with_reducible exact H2_) | with_reducible exact H | (rw [hy253]; exact H) | exact H
                              have Ny253 := Aside0.mk hy253
                              clear hy253
                              by_cases c29 : y253.length + l1.length < 140737488355328
                              · rw [if_pos c29] at H
                                have LMc29 := Aside0.mk c29
                                clear c29
                                obtain ⟨y256, hy256⟩ : ∃ y_ : List Int, y_ = (y253 ++ l1) := ⟨_, rfl⟩
                                replace H : ((octet_Unseal.f kj6 y256).bind fun bt259 => (if t234 = 3 then (if t233 = 0 then (if t247 = 2 then (if t246 = 0 then (if bt259.2.2 = 0 then (if bt259.2.1 = (t225.length : Int) then (some ((strOfNums bt259.1).toList == (strOfNums l0).toList)) else (some false)) else (some false)) else (some false)) else (some false)) else (some false)) else (some false))) = some r := by first | (rw [hy256]; with_reducible exact H) | (have H2_ := (Option.bind_some _ _).symm.trans H; rw [hy256]; with_reducible exact H2_) | (have H2_ := (Option.bind_some _ _).symm.trans H; with_reducible exact H2_) | with_reducible exact H | (rw [hy256]; exact H) | exact H
                                have Ny256 := Aside0.mk hy256
                                clear hy256
                                replace H := Option.bind_eq_some_iff.mp H
                                obtain ⟨⟨t259, t260, t261⟩, A300, H⟩ := H
                                replace H : (if t234 = 3 then (if t233 = 0 then (if t247 = 2 then (if t246 = 0 then (if t261 = 0 then (if t260 = (t225.length : Int) then (some ((strOfNums t259).toList == (strOfNums l0).toList)) else (some false)) else (some false)) else (some false)) else (some false)) else (some false)) else (some false)) = some r := H
                                have A30 := Aside0.mk A300
                                clear A300
                                by_cases c31 : t234 = 3
                                · rw [if_pos c31] at H
                                  have c31b0 : (t234 == 3) = true := beq_iff_eq.mpr c31
                                  have c31b1 : (t234 != 3) = false := bne_eq_false_iff_eq.mpr c31
                                  clear c31
                                  by_cases c32 : t233 = 0
                                  · rw [if_pos c32] at H
                                    have c32b0 : (t233 == 0) = true := beq_iff_eq.mpr c32
                                    have c32b1 : (t233 != 0) = false := bne_eq_false_iff_eq.mpr c32
                                    clear c32
                                    by_cases c33 : t247 = 2
                                    · rw [if_pos c33] at H
                                      have c33b0 : (t247 == 2) = true := beq_iff_eq.mpr c33
                                      have c33b1 : (t247 != 2) = false := bne_eq_false_iff_eq.mpr c33
                                      clear c33
                                      by_cases c34 : t246 = 0
                                      · rw [if_pos c34] at H
                                        have c34b0 : (t246 == 0) = true := beq_iff_eq.mpr c34
                                        have c34b1 : (t246 != 0) = false := bne_eq_false_iff_eq.mpr c34
                                        clear c34
                                        by_cases c35 : t261 = 0
                                        · rw [if_pos c35] at H
                                          have c35b0 : (t261 == 0) = true := beq_iff_eq.mpr c35
                                          have c35b1 : (t261 != 0) = false := bne_eq_false_iff_eq.mpr c35
                                          clear c35
                                          by_cases c36 : t260 = (t225.length : Int)
                                          · rw [if_pos c36] at H
                                            have c36b0 : (t260 == (t225.length : Int)) = true := beq_iff_eq.mpr c36
                                            have c36b1 : (t260 != (t225.length : Int)) = false := bne_eq_false_iff_eq.mpr c36
                                            clear c36
                                            obtain rfl := Option.some.inj H
                                            try go_wp2_with (first | ((with_reducible refine gate_callee (f := 40) rfl ?_); refine goesL_ (some 32) rfl rfl Try.func40 (by kernel_rfl) rfl #[.slice A0 l0.length c0] rfl (by (try simp only [List.map_toArray, List.map_cons, List.map_nil]); first | done | rfl | (simp only [List.length_drop, List.length_take]; rfl)) ?_; (with_reducible refine (octet_Seal.calls kj6 _ _ l0 t225 _ ?side1 ?side2 A11.out).mono ?_); (case side1 => repeat (first | exact (Kd.C_below HR0.out HB.out) | (with_reducible refine Kd.C_alloc ?_ _) | (with_reducible refine Kd.C_drewN ?_ _) | (with_reducible refine Kd.C_drew ?_))); (case side2 => exact HC0.out); rintro e w37 ⟨v226, rfl, ho0, hb⟩; refine ⟨_, rfl, ?_⟩; have n0_ := Aside0.mk (Kd.R_lower ho0 (below_size (by repeat (first | (with_reducible first | exact HB.out | apply below_alloc | apply pw_below_drewN | apply below_drew1) | exact HB.out)))); have n1_ := Aside0.mk (below_step (by repeat (first | (with_reducible first | exact HB.out | apply below_alloc | apply pw_below_drewN | apply below_drew1) | exact HB.out)) hb); clear HB; have HO227 := n0_; have HB := n1_; clear n0_ n1_; (try clear hb); (try clear hb2); (try clear hk); (try clear hi); (try clear ho0); obtain ⟨Ao38, co38, eo38⟩ := Kd.R_slice HO227.out; subst eo38; have q39 : ((ji14) : Int) ≤ ((t225.length : Int) : Int) := of_decide_eq_true (by first | (with_reducible assumption) | assumption); obtain ⟨i039, hi039, _, hsz39, _⟩ := info_parts info5; have hroom39 : t225.length ≤ co38 := (Kd.R_reads' HO227.out).2.1; have hC39 : Kd.C (Kd.int .u8) _ Ao38 t225.length t225 := (Kd.R_reads' HO227.out).2.2; have hcut39 := cut_to (P := Try.prog) 24 5 .i64 Try.underlying24 hi039 Ao38 t225.length co38 (ji14) (of_decide_eq_true (by first | (with_reducible assumption) | assumption)) q39 hroom39; have hr39 := Kd.C_take (m := ((ji14) : Int).toNat) hC39 (by omega); have hy39 : y228.length = ((ji14) : Int).toNat := (by rw [Ny228.out, List.length_take]; omega); rw [← Ny228.out] at hr39; rw [← hy39] at hcut39; have HR231 := Aside0.mk hr39; have HC231 := Aside0.mk (show y228.length ≤ co38 from by omega); clear hr39 hC39 hroom39 hi039 hsz39; have KY39 := Aside0.mk hy39; clear hy39; have KL39 := Aside0.mk (show ((ji14) : Int).toNat ≤ t225.length from by omega); replace q39 := eq_true q39) | ((with_reducible refine gate_callee (f := 38) rfl ?_); refine goesL_ (some 47) rfl rfl Try.func38 (by kernel_rfl) rfl #[.slice Ao38 y228.length co38] rfl (by (try simp only [List.map_toArray, List.map_cons, List.map_nil]); first | done | rfl | (simp only [List.length_drop, List.length_take]; rfl)) ?_; (with_reducible refine (octet_Unseal.calls kj6 _ _ y228 t232 t233 t234 _ ?side1 ?side2 A17.out).mono ?_); (case side1 => repeat (first | exact (by repeat (first | (with_reducible exact HR231.out) | (with_reducible refine Kd.C_alloc ?_ _) | (with_reducible refine Kd.C_drewN ?_ _) | (with_reducible refine Kd.C_drew ?_) | exact HR231.out)) | (with_reducible refine Kd.C_alloc ?_ _) | (with_reducible refine Kd.C_drewN ?_ _) | (with_reducible refine Kd.C_drew ?_))); (case side2 => exact HC231.out); rintro e w40 ⟨v235, rfl, ho0, hb⟩; refine ⟨_, rfl, ?_⟩; have n0_ := Aside0.mk (Kd.R_elder' (by (with_reducible repeat (first | apply Kd.R_alloc | apply Kd.R_drewN | apply Kd.R_drew)); exact HO227.out) (Kd.R_base ho0) hb); have n1_ := Aside0.mk (Kd.R_lower (Kd.R_new' ho0 (Kd.R_lt (by (with_reducible repeat (first | apply Kd.R_alloc | apply Kd.R_drewN | apply Kd.R_drew)); exact HO227.out))) (below_size (by repeat (first | (with_reducible first | exact HB.out | apply below_alloc | apply pw_below_drewN | apply below_drew1) | exact HB.out)))); have n2_ := Aside0.mk (Kd.C_below (by repeat (first | (with_reducible exact HR231.out) | (with_reducible refine Kd.C_alloc ?_ _) | (with_reducible refine Kd.C_drewN ?_ _) | (with_reducible refine Kd.C_drew ?_) | exact HR231.out)) hb); have n3_ := Aside0.mk (below_step (by repeat (first | (with_reducible first | exact HB.out | apply below_alloc | apply pw_below_drewN | apply below_drew1) | exact HB.out)) hb); clear HO227; clear HR231; clear HB; have HO227 := n0_; have HO236 := n1_; have HR231 := n2_; have HB := n3_; clear n0_ n1_ n2_ n3_; (try clear hb); (try clear hb2); (try clear hk); (try clear hi); (try clear ho0)) | ((with_reducible refine gate_dst (N := 59) rfl ?_); (try (refine gate_guard (by rfl) ?_; dsimp only)); refine Kd.R_lit (Kd.int .u8) _ 5 ?hg (N := 59) ?hd (xs := ([] : List Int)) (inner := []) (ok := fun _ => True) (okp := fun _ => True) ?hr ?hp (fun _ hk => hk) trivial (Below.refl _ _) (Nat.le_refl _) (by simp) ?_; (case hd => rfl); (case hg => rfl); (case hr => first | (go_simp; done) | (go_simp; rfl)); (case hp => exact (Reps.none _ _)); intro v238 w41 ho42 hb hg_ hnew_; clear hg_ hnew_; (first | rw [← Ny237.out] at ho42 | (simp only [Int.reduceToNat] at ho42; rw [← Ny237.out] at ho42)); have n0_ := Aside0.mk (Kd.R_elder' (by (with_reducible repeat (first | apply Kd.R_alloc | apply Kd.R_drewN | apply Kd.R_drew)); exact HO227.out) (Kd.R_base ho42) hb); have n1_ := Aside0.mk (Kd.R_elder' (by (with_reducible repeat (first | apply Kd.R_alloc | apply Kd.R_drewN | apply Kd.R_drew)); exact HO236.out) (Kd.R_base ho42) hb); have n2_ := Aside0.mk (Kd.R_lower (Kd.R_new' (Kd.R_new' ho42 (Kd.R_lt (by (with_reducible repeat (first | apply Kd.R_alloc | apply Kd.R_drewN | apply Kd.R_drew)); exact HO227.out))) (Kd.R_lt (by (with_reducible repeat (first | apply Kd.R_alloc | apply Kd.R_drewN | apply Kd.R_drew)); exact HO236.out))) (below_size (by repeat (first | (with_reducible first | exact HB.out | apply below_alloc | apply pw_below_drewN | apply below_drew1) | exact HB.out)))); have n3_ := Aside0.mk (Kd.C_below (by repeat (first | (with_reducible exact HR231.out) | (with_reducible refine Kd.C_alloc ?_ _) | (with_reducible refine Kd.C_drewN ?_ _) | (with_reducible refine Kd.C_drew ?_) | exact HR231.out)) hb); have n4_ := Aside0.mk (below_step (by repeat (first | (with_reducible first | exact HB.out | apply below_alloc | apply pw_below_drewN | apply below_drew1) | exact HB.out)) hb); clear HO227; clear HO236; clear HR231; clear HB; have HO227 := n0_; have HO236 := n1_; have HO239 := n2_; have HR231 := n3_; have HB := n4_; clear n0_ n1_ n2_ n3_ n4_; clear hb ho42) | ((with_reducible refine gate_builtin (b := .append) (xs := #[.tmp 59, .tmp 60]) rfl ?_); (try (refine gate_guard (by rfl) ?_; dsimp only)); at_builtin; refine Kd.R_append_rows (Kd.int .u8) (w0 := w) w.heap.size rfl (.tmp 59) (.tmp 60) 24 5 (.int .u8 0) 1 rfl Try.underlying24 info5 rfl (by decide) (by omega) v238 y237 t225 _ _ _ (fun k_ => some k_ ≠ (.slice Ao38 t225.length co38 : Value).ownBlock ∧ some k_ ≠ (v235 : Value).ownBlock) (fun _ => False) rfl rfl ?aO ?aR (fun _ _ h => h) (fun _ h => h.elim) ?aF ?aB ?aS ?aL ?_; (case aR => repeat (first | exact (Kd.R_reads' HO227.out).2.2 | (with_reducible refine Kd.C_alloc ?_ _) | (with_reducible refine Kd.C_drewN ?_ _) | (with_reducible refine Kd.C_drew ?_))); (case aB => exact (by repeat (first | (with_reducible first | exact HB.out | apply below_alloc | apply pw_below_drewN | apply below_drew1) | exact HB.out))); (case aF => exact (fun k_ hk => ⟨Kd.fresh' (Kd.R_lt (by (with_reducible repeat (first | apply Kd.R_alloc | apply Kd.R_drewN | apply Kd.R_drew)); exact HO227.out)) k_ hk, Kd.fresh' (Kd.R_lt (by (with_reducible repeat (first | apply Kd.R_alloc | apply Kd.R_drewN | apply Kd.R_drew)); exact HO236.out)) k_ hk⟩)); (case aO => exact (by (with_reducible repeat (first | apply Kd.R_alloc | apply Kd.R_drewN | apply Kd.R_drew)); exact Kd.R_mono HO239.out (fun _ hk => ⟨hk.1.2, hk.2⟩))); (case aS => exact (below_size (by repeat (first | (with_reducible first | exact HB.out | apply below_alloc | apply pw_below_drewN | apply below_drew1) | exact HB.out)))); (case aL => have := LMc19.out; (try rw [hji14] at this); (try rw [hji20] at this); (try rw [hji23] at this); (try rw [hji25] at this); omega); intro v241 w43 ho hb hg hat; rw [← Ny240.out] at ho; have n0_ := Aside0.mk (Kd.R_after (ok := (fun k_ => some k_ ≠ (v235 : Value).ownBlock)) (by (with_reducible repeat (first | apply Kd.R_alloc | apply Kd.R_drewN | apply Kd.R_drew)); exact Kd.R_mono HO227.out (fun _ hk => ⟨hk.1.2, hk.2⟩)) hg hat); have n1_ := Aside0.mk (Kd.R_after (ok := (fun k_ => some k_ ≠ (.slice Ao38 t225.length co38 : Value).ownBlock)) (by (with_reducible repeat (first | apply Kd.R_alloc | apply Kd.R_drewN | apply Kd.R_drew)); exact Kd.R_mono HO236.out (fun _ hk => ⟨hk.1.2, hk.2⟩)) hg hat); have n2_ := Aside0.mk (hb); have n3_ := Aside0.mk ((show Kd.C (Kd.int .u8) w43 Ao38 y228.length y228 from by rw [Ny228.out]; exact Kd.C_take (m := ((ji14) : Int).toNat) ((Kd.R_reads' (Kd.R_after (ok := (fun k_ => some k_ ≠ (v235 : Value).ownBlock)) (by (with_reducible repeat (first | apply Kd.R_alloc | apply Kd.R_drewN | apply Kd.R_drew)); exact Kd.R_mono HO227.out (fun _ hk => ⟨hk.1.2, hk.2⟩)) hg hat)).2.2) KL39.out)); have n4_ := Aside0.mk (ho); clear HO227; clear HO236; clear HB; clear HR231; clear HO239; have HO227 := n0_; have HO236 := n1_; have HB := n2_; have HR231 := n3_; have HO242 := n4_; clear n0_ n1_ n2_ n3_ n4_; clear ho hb hg hat))
                                            have n0_ := Aside0.mk (Kd.R_drew HO227.out)
                                            have n1_ := Aside0.mk (Kd.R_drew HO236.out)
                                            have n2_ := Aside0.mk (Kd.R_drew HO242.out)
                                            have n3_ := Aside0.mk (Kd.C_drew HR231.out)
                                            have n4_ := Aside0.mk (below_drew1 HB.out)
                                            clear HO227
                                            clear HO236
                                            clear HO242
                                            clear HR231
                                            clear HB
                                            have HO227 := n0_
                                            have HO236 := n1_
                                            have HO242 := n2_
                                            have HR231 := n3_
                                            have HB := n4_
                                            clear n0_ n1_ n2_ n3_ n4_
                                            obtain ⟨Ao45, co45, eo45⟩ := Kd.R_slice HO242.out
                                            (first | subst eo45 | (injection eo45 with f1_ f2_ f3_; have f4_ := f1_.symm; have f5_ := f3_.symm; clear f1_ f2_ f3_; subst f4_; subst f5_))
                                            have p243 : 0 ≤ ((ji20) : Int) := of_decide_eq_true (by first | (with_reducible assumption) | assumption)
                                            have q243 : (ji20) < (y240.length : Int) := of_decide_eq_true (by first | (with_reducible assumption) | assumption)
                                            obtain ⟨ad243, e243, hx243_0⟩ := Kd.at_int (Kd.R_reads' HO242.out).2.2 (ji20) p243 q243
                                            cases e243
                                            replace p243 := eq_true p243
                                            replace q243 := eq_true q243
                                            have p26 : 0 ≤ ((ji20) : Int) := of_decide_eq_true (by first | (with_reducible assumption) | assumption)
                                            have q26 : ((ji20) : Int) < ((y240.length : Int) : Int) := of_decide_eq_true (by first | (with_reducible assumption) | assumption)
                                            obtain ⟨go26, co26, eo26, gb26, gl26, cl26, HG26⟩ := Kd.R_form HO242.out (by omega)
                                            (first | cases eo26 | (injection eo26 with ea_ en_ ec_; (first | subst ea_ | (injection ea_ with ea_; subst ea_)); subst ec_; clear en_))
                                            have GB26 := Aside0.mk gb26
                                            have GG26 := Aside0.mk HG26
                                            clear gb26 gl26 HG26
                                            (first | simp only [add_plain] at hx243_0 | skip)
                                            obtain ⟨hx26_0, hf26_0⟩ := Kd.R_celln 0 HO242.out ((ji20) : Int) p26 q26
                                            replace p26 := eq_true p26
                                            replace q26 := eq_true q26
                                            have HP46 := Kd.R_putn HO242.out ((ji20) : Int) (Go.bits .xor .u8 (rd y240 (ji20)) (ji25))
                                            rw [← Ny244.out] at HP46
                                            have HQ46 := Aside0.mk HP46
                                            clear HP46
                                            refine start_ (n := 11) (S := fun w' => w'.cell? ⟨go26, ((ji20)).toNat, none⟩ = some (.int .u8 (rd y240 (ji20)))) (ds := [10]) #[false, false, false, false, false, false, false, false, false, false, false] (by kernel_rfl) rfl rfl (hx243_0) (fun hHeld => ?_); refine with_tabW assayerlaw1_OctetTorn.tab11 assayerlaw1_OctetTorn.bits11 (fun HT_ HW_ => ?_)
                                            generalize w43.drew = w44 at HO227 HO236 HO242 HR231 HB GG26 HQ46 hf26_0 hx243_0 hx26_0 hHeld ⊢
                                            refine pure_ (i := 0) (N := some 62) (v := ?_) (a' := ?_) #[true, false, false, false, false, false, false, false, false, false, false] rfl rfl (any_of HT_.out (by kernel_rfl)) (fun _ _ _ h => h) (Or.inl ⟨by rfl, ?_⟩) ?_ ?_
                                            rotate_left
                                            · intro w'
                                              go_simp
                                              with_reducible rfl
                                            rotate_left
                                            · simp only [Act.put, List.setIfInBounds_toArray, List.set_cons_zero, List.set_cons_succ, i64_w, i32_w]
                                              rfl
                                            refine pure_ (i := 1) (N := some 63) (v := ?_) (a' := ?_) #[true, true, false, false, false, false, false, false, false, false, false] rfl rfl (any_of HT_.out (by kernel_rfl)) (fun _ _ _ h => h) (Or.inl ⟨by rfl, ?_⟩) ?_ ?_
                                            rotate_left
                                            · intro w'
                                              go_simp
                                              with_reducible rfl
                                            rotate_left
                                            · simp only [Act.put, List.setIfInBounds_toArray, List.set_cons_zero, List.set_cons_succ, i64_w, i32_w]
                                              rfl
                                            refine pure_ (i := 2) (N := some 64) (v := ?_) (a' := ?_) #[true, true, true, false, false, false, false, false, false, false, false] rfl rfl (any_of HT_.out (by kernel_rfl)) (fun _ _ _ h => h) (Or.inl ⟨by rfl, ?_⟩) ?_ ?_
                                            rotate_left
                                            · intro w'
                                              go_simp
                                              with_reducible rfl
                                            rotate_left
                                            · simp only [Act.put, List.setIfInBounds_toArray, List.set_cons_zero, List.set_cons_succ, i64_w, i32_w]
                                              rfl
                                            refine pure_ (i := 3) (N := some 65) (v := ?_) (a' := ?_) #[true, true, true, true, false, false, false, false, false, false, false] rfl rfl (any_of HT_.out (by kernel_rfl)) (fun _ _ _ h => h) (Or.inl ⟨by rfl, ?_⟩) ?_ ?_
                                            rotate_left
                                            · intro w'
                                              go_simp
                                              with_reducible rfl
                                            rotate_left
                                            · simp only [Act.put, List.setIfInBounds_toArray, List.set_cons_zero, List.set_cons_succ, i64_w, i32_w]
                                              rfl
                                            refine pure_ (i := 5) (N := some 67) (v := ?_) (a' := ?_) #[true, true, true, true, false, true, false, false, false, false, false] rfl rfl (any_of HT_.out (by kernel_rfl)) (fun _ _ _ h => h) (Or.inl ⟨by rfl, ?_⟩) ?_ ?_
                                            rotate_left
                                            · intro w'
                                              go_simp
                                              with_reducible rfl
                                            rotate_left
                                            · simp only [Act.put, List.setIfInBounds_toArray, List.set_cons_zero, List.set_cons_succ, i64_w, i32_w]
                                              rfl
                                            refine pure_ (i := 6) (N := some 68) (v := ?_) (a' := ?_) #[true, true, true, true, false, true, true, false, false, false, false] rfl rfl (any_of HT_.out (by kernel_rfl)) (fun _ _ _ h => h) (Or.inl ⟨by rfl, ?_⟩) ?_ ?_
                                            rotate_left
                                            · intro w'
                                              go_simp
                                              with_reducible rfl
                                            rotate_left
                                            · simp only [Act.put, List.setIfInBounds_toArray, List.set_cons_zero, List.set_cons_succ, i64_w, i32_w]
                                              rfl
                                            refine pure_ (i := 7) (N := some 69) (v := ?_) (a' := ?_) #[true, true, true, true, false, true, true, true, false, false, false] rfl rfl (any_of HT_.out (by kernel_rfl)) (fun _ _ _ h => h) (Or.inl ⟨by rfl, ?_⟩) ?_ ?_
                                            rotate_left
                                            · intro w'
                                              go_simp
                                              with_reducible rfl
                                            rotate_left
                                            · simp only [Act.put, List.setIfInBounds_toArray, List.set_cons_zero, List.set_cons_succ, i64_w, i32_w]
                                              rfl
                                            refine take_ (i := 4) (N := some 66) (v := ?_) (a' := ?_) #[true, true, true, true, true, true, true, true, false, false, false] rfl rfl (take_ofW HT_.out HW_.out (by kernel_rfl)) (fun _ _ _ h => h) (Or.inl ⟨by rfl, ?_⟩) hHeld ?_ ?_
                                            rotate_left
                                            · intro w' s0
                                              go_simp
                                              with_reducible rfl
                                            rotate_left
                                            · simp only [Act.put, List.setIfInBounds_toArray, List.set_cons_zero, List.set_cons_succ, i64_w, i32_w]
                                              rfl
                                            refine pure_ (i := 8) (N := some 70) (v := ?_) (a' := ?_) #[true, true, true, true, true, true, true, true, true, false, false] rfl rfl (any_of HT_.out (by kernel_rfl)) (fun _ _ _ h => h) (Or.inl ⟨by rfl, ?_⟩) ?_ ?_
                                            rotate_left
                                            · intro w'
                                              go_simp
                                              with_reducible rfl
                                            rotate_left
                                            · simp only [Act.put, List.setIfInBounds_toArray, List.set_cons_zero, List.set_cons_succ, i64_w, i32_w]
                                              rfl
                                            refine pure_ (i := 9) (N := some 71) (v := ?_) (a' := ?_) #[true, true, true, true, true, true, true, true, true, true, false] rfl rfl (any_of HT_.out (by kernel_rfl)) (fun _ _ _ h => h) (Or.inl ⟨by rfl, ?_⟩) ?_ ?_
                                            rotate_left
                                            · intro w'
                                              go_simp
                                              with_reducible rfl
                                            rotate_left
                                            · simp only [Act.put, List.setIfInBounds_toArray, List.set_cons_zero, List.set_cons_succ, i64_w, i32_w]
                                              rfl
                                            refine last_ (i := 10) (N := none) #[true, true, true, true, true, true, true, true, true, true, true] rfl rfl (one_of HT_.out (by kernel_rfl)) (by decide) (fun K hK => ?_)
                                            refine skip_ (w1 := ?_) (by rfl) rfl ?_ ?_
                                            rotate_left
                                            · go_simp
                                              rfl
                                            refine hK.out _ _ ?_
                                            clear hK K
                                            refine done_ (done_of HT_.out (by kernel_rfl)) ?_
                                            try go_wp2_with (first | ((with_reducible refine gate_callee (f := 38) rfl ?_); refine goesL_ (some 74) rfl rfl Try.func38 (by kernel_rfl) rfl #[.slice (some ⟨go26, 0, none⟩) y244.length co45] rfl (by (try simp only [List.map_toArray, List.map_cons, List.map_nil]); first | done | (rw [show y244.length = y240.length from (Kd.R_reads' HQ46.out).1.symm] <;> rfl) | rfl | (simp only [List.length_drop, List.length_take]; rfl)) ?_; (with_reducible refine (octet_Unseal.calls kj6 _ _ y244 t245 t246 t247 _ ?side1 ?side2 A27.out).mono ?_); (case side1 => refine (Kd.R_reads' (e := 5) (base := w.heap.size) (ok := fun k_ => (some k_ ≠ (.slice Ao38 t225.length co38 : Value).ownBlock ∧ some k_ ≠ (v235 : Value).ownBlock)) (n := y240.length) (c := co45) ?_).2.2; exact (by (with_reducible repeat (first | apply Kd.R_alloc | apply Kd.R_drewN | apply Kd.R_drew)); exact HQ46.out)); (case side2 => rw [show y244.length = y240.length from (Kd.R_reads' HQ46.out).1.symm]; exact (Kd.R_reads' HO242.out).2.1); rintro e w47 ⟨v248, rfl, ho0, hb⟩; refine ⟨_, rfl, ?_⟩; have n0_ := Aside0.mk (Kd.R_elder' (by (with_reducible repeat (first | apply Kd.R_alloc | apply Kd.R_drewN | apply Kd.R_drew)); exact (Kd.R_mono (Kd.R_far (p := ⟨go26, ((ji20) : Int).toNat, none⟩) (Kd.R_mono HO227.out (fun k_ hk => (⟨hk, fun e_ => hk.2 (by rw [e_]; rfl)⟩ : _ ∧ k_ ≠ go26))) (fun _ hk => hk.2) (.int .u8 (Go.bits .xor .u8 (rd y240 (ji20)) (ji25)))) (fun _ h_ => h_.1))) (Kd.R_base ho0) hb); have n1_ := Aside0.mk (Kd.R_elder' (by (with_reducible repeat (first | apply Kd.R_alloc | apply Kd.R_drewN | apply Kd.R_drew)); exact (Kd.R_mono (Kd.R_far (p := ⟨go26, ((ji20) : Int).toNat, none⟩) (Kd.R_mono HO236.out (fun k_ hk => (⟨hk, fun e_ => hk.2 (by rw [e_]; rfl)⟩ : _ ∧ k_ ≠ go26))) (fun _ hk => hk.2) (.int .u8 (Go.bits .xor .u8 (rd y240 (ji20)) (ji25)))) (fun _ h_ => h_.1))) (Kd.R_base ho0) hb); have n2_ := Aside0.mk (Kd.R_elder' (by (with_reducible repeat (first | apply Kd.R_alloc | apply Kd.R_drewN | apply Kd.R_drew)); exact HQ46.out) (Kd.R_base ho0) hb); have n3_ := Aside0.mk (Kd.R_lower (Kd.R_new' (Kd.R_new' (Kd.R_new' ho0 (Kd.R_lt (by (with_reducible repeat (first | apply Kd.R_alloc | apply Kd.R_drewN | apply Kd.R_drew)); exact (Kd.R_mono (Kd.R_far (p := ⟨go26, ((ji20) : Int).toNat, none⟩) (Kd.R_mono HO227.out (fun k_ hk => (⟨hk, fun e_ => hk.2 (by rw [e_]; rfl)⟩ : _ ∧ k_ ≠ go26))) (fun _ hk => hk.2) (.int .u8 (Go.bits .xor .u8 (rd y240 (ji20)) (ji25)))) (fun _ h_ => h_.1))))) (Kd.R_lt (by (with_reducible repeat (first | apply Kd.R_alloc | apply Kd.R_drewN | apply Kd.R_drew)); exact (Kd.R_mono (Kd.R_far (p := ⟨go26, ((ji20) : Int).toNat, none⟩) (Kd.R_mono HO236.out (fun k_ hk => (⟨hk, fun e_ => hk.2 (by rw [e_]; rfl)⟩ : _ ∧ k_ ≠ go26))) (fun _ hk => hk.2) (.int .u8 (Go.bits .xor .u8 (rd y240 (ji20)) (ji25)))) (fun _ h_ => h_.1))))) (Kd.R_lt (by (with_reducible repeat (first | apply Kd.R_alloc | apply Kd.R_drewN | apply Kd.R_drew)); exact HQ46.out))) (below_size (by repeat (first | (with_reducible first | exact HB.out | apply below_alloc | apply pw_below_drewN | apply below_drew1 | refine below_set ?_ GB26.out) | exact HB.out)))); have n4_ := Aside0.mk (below_step (by repeat (first | (with_reducible first | exact HB.out | apply below_alloc | apply pw_below_drewN | apply below_drew1 | refine below_set ?_ GB26.out) | exact HB.out)) hb); clear HO227; clear HO236; clear HO242; clear HB; have HO227 := n0_; have HO236 := n1_; have HO242 := n2_; have HO249 := n3_; have HB := n4_; clear n0_ n1_ n2_ n3_ n4_; (try clear hb); (try clear hb2); (try clear hk); (try clear hi); (try clear ho0)) | ((with_reducible refine gate_dst (N := 79) rfl ?_); (try (refine gate_guard (by rfl) ?_; dsimp only)); refine Kd.R_lit (Kd.int .u8) _ 5 ?hg (N := 79) ?hd (xs := ([] : List Int)) (inner := []) (ok := fun _ => True) (okp := fun _ => True) ?hr ?hp (fun _ hk => hk) trivial (Below.refl _ _) (Nat.le_refl _) (by simp) ?_; (case hd => rfl); (case hg => rfl); (case hr => first | (go_simp; done) | (go_simp; rfl)); (case hp => exact (Reps.none _ _)); intro v251 w48 ho49 hb hg_ hnew_; clear hg_ hnew_; (first | rw [← Ny250.out] at ho49 | (simp only [Int.reduceToNat] at ho49; rw [← Ny250.out] at ho49)); have n0_ := Aside0.mk (Kd.R_elder' (by (with_reducible repeat (first | apply Kd.R_alloc | apply Kd.R_drewN | apply Kd.R_drew)); exact HO227.out) (Kd.R_base ho49) hb); have n1_ := Aside0.mk (Kd.R_elder' (by (with_reducible repeat (first | apply Kd.R_alloc | apply Kd.R_drewN | apply Kd.R_drew)); exact HO236.out) (Kd.R_base ho49) hb); have n2_ := Aside0.mk (Kd.R_elder' (by (with_reducible repeat (first | apply Kd.R_alloc | apply Kd.R_drewN | apply Kd.R_drew)); exact HO242.out) (Kd.R_base ho49) hb); have n3_ := Aside0.mk (Kd.R_elder' (by (with_reducible repeat (first | apply Kd.R_alloc | apply Kd.R_drewN | apply Kd.R_drew)); exact HO249.out) (Kd.R_base ho49) hb); have n4_ := Aside0.mk (Kd.R_lower (Kd.R_new' (Kd.R_new' (Kd.R_new' (Kd.R_new' ho49 (Kd.R_lt (by (with_reducible repeat (first | apply Kd.R_alloc | apply Kd.R_drewN | apply Kd.R_drew)); exact HO227.out))) (Kd.R_lt (by (with_reducible repeat (first | apply Kd.R_alloc | apply Kd.R_drewN | apply Kd.R_drew)); exact HO236.out))) (Kd.R_lt (by (with_reducible repeat (first | apply Kd.R_alloc | apply Kd.R_drewN | apply Kd.R_drew)); exact HO242.out))) (Kd.R_lt (by (with_reducible repeat (first | apply Kd.R_alloc | apply Kd.R_drewN | apply Kd.R_drew)); exact HO249.out))) (below_size (by repeat (first | (with_reducible first | exact HB.out | apply below_alloc | apply pw_below_drewN | apply below_drew1) | exact HB.out)))); have n5_ := Aside0.mk (below_step (by repeat (first | (with_reducible first | exact HB.out | apply below_alloc | apply pw_below_drewN | apply below_drew1) | exact HB.out)) hb); clear HO227; clear HO236; clear HO242; clear HO249; clear HB; have HO227 := n0_; have HO236 := n1_; have HO242 := n2_; have HO249 := n3_; have HO252 := n4_; have HB := n5_; clear n0_ n1_ n2_ n3_ n4_ n5_; clear hb ho49) | ((with_reducible refine gate_builtin (b := .append) (xs := #[.tmp 79, .tmp 80]) rfl ?_); (try (refine gate_guard (by rfl) ?_; dsimp only)); at_builtin; refine Kd.R_append_rows (Kd.int .u8) (w0 := w) w.heap.size rfl (.tmp 79) (.tmp 80) 24 5 (.int .u8 0) 1 rfl Try.underlying24 info5 rfl (by decide) (by omega) v251 y250 t225 _ _ _ (fun k_ => some k_ ≠ (.slice Ao38 t225.length co38 : Value).ownBlock ∧ some k_ ≠ (v235 : Value).ownBlock ∧ some k_ ≠ (.slice (some ⟨go26, 0, none⟩) y240.length co45 : Value).ownBlock ∧ some k_ ≠ (v248 : Value).ownBlock) (fun _ => False) rfl rfl ?aO ?aR (fun _ _ h => h) (fun _ h => h.elim) ?aF ?aB ?aS ?aL ?_; (case aR => repeat (first | exact (Kd.R_reads' HO227.out).2.2 | (with_reducible refine Kd.C_alloc ?_ _) | (with_reducible refine Kd.C_drewN ?_ _) | (with_reducible refine Kd.C_drew ?_))); (case aB => exact (by repeat (first | (with_reducible first | exact HB.out | apply below_alloc | apply pw_below_drewN | apply below_drew1) | exact HB.out))); (case aF => exact (fun k_ hk => ⟨Kd.fresh' (Kd.R_lt (by (with_reducible repeat (first | apply Kd.R_alloc | apply Kd.R_drewN | apply Kd.R_drew)); exact HO227.out)) k_ hk, Kd.fresh' (Kd.R_lt (by (with_reducible repeat (first | apply Kd.R_alloc | apply Kd.R_drewN | apply Kd.R_drew)); exact HO236.out)) k_ hk, Kd.fresh' (Kd.R_lt (by (with_reducible repeat (first | apply Kd.R_alloc | apply Kd.R_drewN | apply Kd.R_drew)); exact HO242.out)) k_ hk, Kd.fresh' (Kd.R_lt (by (with_reducible repeat (first | apply Kd.R_alloc | apply Kd.R_drewN | apply Kd.R_drew)); exact HO249.out)) k_ hk⟩)); (case aO => exact (by (with_reducible repeat (first | apply Kd.R_alloc | apply Kd.R_drewN | apply Kd.R_drew)); exact Kd.R_mono HO252.out (fun _ hk => ⟨hk.1.1.1.2, ⟨hk.1.1.2, ⟨hk.1.2, hk.2⟩⟩⟩))); (case aS => exact (below_size (by repeat (first | (with_reducible first | exact HB.out | apply below_alloc | apply pw_below_drewN | apply below_drew1) | exact HB.out)))); (case aL => have := LMc28.out; (try rw [hji14] at this); (try rw [hji20] at this); (try rw [hji23] at this); (try rw [hji25] at this); omega); intro v254 w50 ho hb hg hat; rw [← Ny253.out] at ho; have n0_ := Aside0.mk (Kd.R_after (ok := (fun k_ => some k_ ≠ (v235 : Value).ownBlock ∧ some k_ ≠ (.slice (some ⟨go26, 0, none⟩) y240.length co45 : Value).ownBlock ∧ some k_ ≠ (v248 : Value).ownBlock)) (by (with_reducible repeat (first | apply Kd.R_alloc | apply Kd.R_drewN | apply Kd.R_drew)); exact Kd.R_mono HO227.out (fun _ hk => ⟨⟨hk.1.1.1, ⟨hk.1.1.2, hk.1.2⟩⟩, hk.2⟩)) hg hat); have n1_ := Aside0.mk (Kd.R_after (ok := (fun k_ => some k_ ≠ (.slice Ao38 t225.length co38 : Value).ownBlock ∧ some k_ ≠ (.slice (some ⟨go26, 0, none⟩) y240.length co45 : Value).ownBlock ∧ some k_ ≠ (v248 : Value).ownBlock)) (by (with_reducible repeat (first | apply Kd.R_alloc | apply Kd.R_drewN | apply Kd.R_drew)); exact Kd.R_mono HO236.out (fun _ hk => ⟨⟨hk.1.1.1, ⟨hk.1.1.2, hk.1.2⟩⟩, hk.2⟩)) hg hat); have n2_ := Aside0.mk (Kd.R_after (ok := (fun k_ => some k_ ≠ (.slice Ao38 t225.length co38 : Value).ownBlock ∧ some k_ ≠ (v235 : Value).ownBlock ∧ some k_ ≠ (v248 : Value).ownBlock)) (by (with_reducible repeat (first | apply Kd.R_alloc | apply Kd.R_drewN | apply Kd.R_drew)); exact Kd.R_mono HO242.out (fun _ hk => ⟨⟨hk.1.1.1, ⟨hk.1.1.2, hk.1.2⟩⟩, hk.2⟩)) hg hat); have n3_ := Aside0.mk (Kd.R_after (ok := (fun k_ => some k_ ≠ (.slice Ao38 t225.length co38 : Value).ownBlock ∧ some k_ ≠ (v235 : Value).ownBlock ∧ some k_ ≠ (.slice (some ⟨go26, 0, none⟩) y240.length co45 : Value).ownBlock)) (by (with_reducible repeat (first | apply Kd.R_alloc | apply Kd.R_drewN | apply Kd.R_drew)); exact Kd.R_mono HO249.out (fun _ hk => ⟨⟨hk.1.1.1.2, ⟨hk.1.1.2, hk.1.2⟩⟩, hk.2⟩)) hg hat); have n4_ := Aside0.mk (hb); have n5_ := Aside0.mk (ho); clear HO227; clear HO236; clear HO242; clear HO249; clear HB; clear HO252; have HO227 := n0_; have HO236 := n1_; have HO242 := n2_; have HO249 := n3_; have HB := n4_; have HO255 := n5_; clear n0_ n1_ n2_ n3_ n4_ n5_; clear ho hb hg hat) | ((with_reducible refine gate_builtin (b := .append) (xs := #[.tmp 81, .tmp 82]) rfl ?_); (try (refine gate_guard (by rfl) ?_; dsimp only)); at_builtin; refine Kd.R_append_rows (Kd.int .u8) (w0 := w) w.heap.size rfl (.tmp 81) (.tmp 82) 24 5 (.int .u8 0) 1 rfl Try.underlying24 info5 rfl (by decide) (by omega) v254 y253 l1 _ _ _ (fun k_ => some k_ ≠ (.slice Ao38 t225.length co38 : Value).ownBlock ∧ some k_ ≠ (v235 : Value).ownBlock ∧ some k_ ≠ (.slice (some ⟨go26, 0, none⟩) y240.length co45 : Value).ownBlock ∧ some k_ ≠ (v248 : Value).ownBlock) (fun _ => False) rfl rfl ?aO ?aR (fun _ _ h => h) (fun _ h => h.elim) ?aF ?aB ?aS ?aL ?_; (case aR => repeat (first | exact (Kd.C_below HR1.out HB.out) | (with_reducible refine Kd.C_alloc ?_ _) | (with_reducible refine Kd.C_drewN ?_ _) | (with_reducible refine Kd.C_drew ?_))); (case aB => exact (by repeat (first | (with_reducible first | exact HB.out | apply below_alloc | apply pw_below_drewN | apply below_drew1) | exact HB.out))); (case aF => exact (fun k_ hk => ⟨Kd.fresh' (Kd.R_lt (by (with_reducible repeat (first | apply Kd.R_alloc | apply Kd.R_drewN | apply Kd.R_drew)); exact HO227.out)) k_ hk, Kd.fresh' (Kd.R_lt (by (with_reducible repeat (first | apply Kd.R_alloc | apply Kd.R_drewN | apply Kd.R_drew)); exact HO236.out)) k_ hk, Kd.fresh' (Kd.R_lt (by (with_reducible repeat (first | apply Kd.R_alloc | apply Kd.R_drewN | apply Kd.R_drew)); exact HO242.out)) k_ hk, Kd.fresh' (Kd.R_lt (by (with_reducible repeat (first | apply Kd.R_alloc | apply Kd.R_drewN | apply Kd.R_drew)); exact HO249.out)) k_ hk⟩)); (case aO => exact (by (with_reducible repeat (first | apply Kd.R_alloc | apply Kd.R_drewN | apply Kd.R_drew)); exact HO255.out)); (case aS => exact (below_size (by repeat (first | (with_reducible first | exact HB.out | apply below_alloc | apply pw_below_drewN | apply below_drew1) | exact HB.out)))); (case aL => have := LMc29.out; (try rw [hji14] at this); (try rw [hji20] at this); (try rw [hji23] at this); (try rw [hji25] at this); omega); intro v257 w51 ho hb hg hat; rw [← Ny256.out] at ho; have n0_ := Aside0.mk (Kd.R_after (ok := (fun k_ => some k_ ≠ (v235 : Value).ownBlock ∧ some k_ ≠ (.slice (some ⟨go26, 0, none⟩) y240.length co45 : Value).ownBlock ∧ some k_ ≠ (v248 : Value).ownBlock)) (by (with_reducible repeat (first | apply Kd.R_alloc | apply Kd.R_drewN | apply Kd.R_drew)); exact HO227.out) hg hat); have n1_ := Aside0.mk (Kd.R_after (ok := (fun k_ => some k_ ≠ (.slice Ao38 t225.length co38 : Value).ownBlock ∧ some k_ ≠ (.slice (some ⟨go26, 0, none⟩) y240.length co45 : Value).ownBlock ∧ some k_ ≠ (v248 : Value).ownBlock)) (by (with_reducible repeat (first | apply Kd.R_alloc | apply Kd.R_drewN | apply Kd.R_drew)); exact HO236.out) hg hat); have n2_ := Aside0.mk (Kd.R_after (ok := (fun k_ => some k_ ≠ (.slice Ao38 t225.length co38 : Value).ownBlock ∧ some k_ ≠ (v235 : Value).ownBlock ∧ some k_ ≠ (v248 : Value).ownBlock)) (by (with_reducible repeat (first | apply Kd.R_alloc | apply Kd.R_drewN | apply Kd.R_drew)); exact HO242.out) hg hat); have n3_ := Aside0.mk (Kd.R_after (ok := (fun k_ => some k_ ≠ (.slice Ao38 t225.length co38 : Value).ownBlock ∧ some k_ ≠ (v235 : Value).ownBlock ∧ some k_ ≠ (.slice (some ⟨go26, 0, none⟩) y240.length co45 : Value).ownBlock)) (by (with_reducible repeat (first | apply Kd.R_alloc | apply Kd.R_drewN | apply Kd.R_drew)); exact HO249.out) hg hat); have n4_ := Aside0.mk (hb); have n5_ := Aside0.mk (ho); clear HO227; clear HO236; clear HO242; clear HO249; clear HB; clear HO255; have HO227 := n0_; have HO236 := n1_; have HO242 := n2_; have HO249 := n3_; have HB := n4_; have HO258 := n5_; clear n0_ n1_ n2_ n3_ n4_ n5_; clear ho hb hg hat; obtain ⟨Ao52, co52, eo52⟩ := Kd.R_slice HO258.out; subst eo52) | ((with_reducible refine gate_callee (f := 38) rfl ?_); refine goesL_ (some 84) rfl rfl Try.func38 (by kernel_rfl) rfl #[.slice Ao52 y256.length co52] rfl (by (try simp only [List.map_toArray, List.map_cons, List.map_nil]); first | done | rfl | (simp only [List.length_drop, List.length_take]; rfl)) ?_; (with_reducible refine (octet_Unseal.calls kj6 _ _ y256 t259 t260 t261 _ ?side1 ?side2 A30.out).mono ?_); (case side1 => repeat (first | exact (Kd.R_reads' HO258.out).2.2 | (with_reducible refine Kd.C_alloc ?_ _) | (with_reducible refine Kd.C_drewN ?_ _) | (with_reducible refine Kd.C_drew ?_))); (case side2 => exact (Kd.R_reads' HO258.out).2.1); rintro e w53 ⟨v262, rfl, ho0, hb⟩; refine ⟨_, rfl, ?_⟩; have n0_ := Aside0.mk (Kd.R_elder' (by (with_reducible repeat (first | apply Kd.R_alloc | apply Kd.R_drewN | apply Kd.R_drew)); exact HO227.out) (Kd.R_base ho0) hb); have n1_ := Aside0.mk (Kd.R_elder' (by (with_reducible repeat (first | apply Kd.R_alloc | apply Kd.R_drewN | apply Kd.R_drew)); exact HO236.out) (Kd.R_base ho0) hb); have n2_ := Aside0.mk (Kd.R_elder' (by (with_reducible repeat (first | apply Kd.R_alloc | apply Kd.R_drewN | apply Kd.R_drew)); exact HO242.out) (Kd.R_base ho0) hb); have n3_ := Aside0.mk (Kd.R_elder' (by (with_reducible repeat (first | apply Kd.R_alloc | apply Kd.R_drewN | apply Kd.R_drew)); exact HO249.out) (Kd.R_base ho0) hb); have n4_ := Aside0.mk (Kd.R_elder' (by (with_reducible repeat (first | apply Kd.R_alloc | apply Kd.R_drewN | apply Kd.R_drew)); exact HO258.out) (Kd.R_base ho0) hb); have n5_ := Aside0.mk (Kd.R_lower (Kd.R_new' (Kd.R_new' (Kd.R_new' (Kd.R_new' (Kd.R_new' ho0 (Kd.R_lt (by (with_reducible repeat (first | apply Kd.R_alloc | apply Kd.R_drewN | apply Kd.R_drew)); exact HO227.out))) (Kd.R_lt (by (with_reducible repeat (first | apply Kd.R_alloc | apply Kd.R_drewN | apply Kd.R_drew)); exact HO236.out))) (Kd.R_lt (by (with_reducible repeat (first | apply Kd.R_alloc | apply Kd.R_drewN | apply Kd.R_drew)); exact HO242.out))) (Kd.R_lt (by (with_reducible repeat (first | apply Kd.R_alloc | apply Kd.R_drewN | apply Kd.R_drew)); exact HO249.out))) (Kd.R_lt (by (with_reducible repeat (first | apply Kd.R_alloc | apply Kd.R_drewN | apply Kd.R_drew)); exact HO258.out))) (below_size (by repeat (first | (with_reducible first | exact HB.out | apply below_alloc | apply pw_below_drewN | apply below_drew1) | exact HB.out)))); have n6_ := Aside0.mk (below_step (by repeat (first | (with_reducible first | exact HB.out | apply below_alloc | apply pw_below_drewN | apply below_drew1) | exact HB.out)) hb); clear HO227; clear HO236; clear HO242; clear HO249; clear HO258; clear HB; have HO227 := n0_; have HO236 := n1_; have HO242 := n2_; have HO249 := n3_; have HO258 := n4_; have HO263 := n5_; have HB := n6_; clear n0_ n1_ n2_ n3_ n4_ n5_ n6_; (try clear hb); (try clear hb2); (try clear hk); (try clear hi); (try clear ho0); have hcv54 := own_string (P := Try.prog) Try.underlying24 Try.underlying5 Try.underlying9 (Kd.own_of_R HO263.out); have hcv55 := Kd.C_string (P := Try.prog) (A := A0) (c := c0) Try.underlying24 Try.underlying5 Try.underlying9 (Kd.C_below HR0.out HB.out)))
                                            go_ret
                                            exact ⟨by first | rfl | (simp [errW_none, errW_some] <;> rfl) | (simp only [← hji14, ← hji20, ← hji23, ← hji25]; first | rfl | (simp [errW_none, errW_some] <;> rfl)) | (simp [*, errW_none, errW_some] <;> rfl), by repeat (first | (with_reducible first | exact HB.out | apply below_alloc | apply pw_below_drewN | apply below_drew1) | exact HB.out)⟩
                                          · rw [if_neg c36] at H
                                            have c36b0 : (t260 == (t225.length : Int)) = false := beq_eq_false_iff_ne.mpr c36
                                            have c36b1 : (t260 != (t225.length : Int)) = true := bne_iff_ne.mpr c36
                                            exact absurd (Option.some.inj H) (by rw [hrt]; decide)
                                        · rw [if_neg c35] at H
                                          have c35b0 : (t261 == 0) = false := beq_eq_false_iff_ne.mpr c35
                                          have c35b1 : (t261 != 0) = true := bne_iff_ne.mpr c35
                                          exact absurd (Option.some.inj H) (by rw [hrt]; decide)
                                      · rw [if_neg c34] at H
                                        have c34b0 : (t246 == 0) = false := beq_eq_false_iff_ne.mpr c34
                                        have c34b1 : (t246 != 0) = true := bne_iff_ne.mpr c34
                                        exact absurd (Option.some.inj H) (by rw [hrt]; decide)
                                    · rw [if_neg c33] at H
                                      have c33b0 : (t247 == 2) = false := beq_eq_false_iff_ne.mpr c33
                                      have c33b1 : (t247 != 2) = true := bne_iff_ne.mpr c33
                                      exact absurd (Option.some.inj H) (by rw [hrt]; decide)
                                  · rw [if_neg c32] at H
                                    have c32b0 : (t233 == 0) = false := beq_eq_false_iff_ne.mpr c32
                                    have c32b1 : (t233 != 0) = true := bne_iff_ne.mpr c32
                                    exact absurd (Option.some.inj H) (by rw [hrt]; decide)
                                · rw [if_neg c31] at H
                                  have c31b0 : (t234 == 3) = false := beq_eq_false_iff_ne.mpr c31
                                  have c31b1 : (t234 != 3) = true := bne_iff_ne.mpr c31
                                  exact absurd (Option.some.inj H) (by rw [hrt]; decide)
                              · rw [if_neg c29] at H
                                exact absurd H (by simp)
                            · rw [if_neg c28] at H
                              exact absurd H (by simp)
                          · rw [if_neg c24] at H
                            exact absurd H (by simp)
                        · rw [if_neg c22] at H
                          exact absurd H (by simp)
                      · rw [if_neg c21] at H
                        exact absurd H (by simp)
                    · rw [if_neg c19] at H
                      exact absurd H (by simp)
                · rw [if_neg c16] at H
                  exact absurd H (by simp)
              · rw [if_neg c15] at H
                exact absurd H (by simp)
          · rw [if_neg c12] at H
            have c12b0 : ((t225.length : Int) == (wrap64 (7 + (l0.length : Int)))) = false := beq_eq_false_iff_ne.mpr c12
            have c12b1 : ((t225.length : Int) != (wrap64 (7 + (l0.length : Int)))) = true := bne_iff_ne.mpr c12
            exact absurd (Option.some.inj H) (by rw [hrt]; decide)
  · replace c6 := Bool.eq_false_iff.mpr c6
    subst c6
    have H1 : (some false) = some r := by rw [if_neg (show ¬ (false = true) by decide)] at H; exact H
    clear H
    have H := H1
    clear H1
    exact absurd (Option.some.inj H) (by rw [hrt]; decide)

/-- THE ONE PURE STATEMENT of assayerlaw1_OctetTorn: yours. -/
def assayerlaw1_OctetTorn.Pure : Prop := ∀ (l0 : List Int) (l1 : List Int) (a2 : Int) (a3 : Int), l0.length ≤ maxLen → l0.length * 1 ≤ 140737488351232 → (∀ x ∈ l0, (Lit.int .u8 x).wf = true) → l1.length ≤ maxLen → l1.length * 1 ≤ 140737488351232 → (∀ x ∈ l1, (Lit.int .u8 x).wf = true) → (Lit.int .u16 a2).wf = true → (Lit.int .u16 a3).wf = true → ∃ k, assayerlaw1_OctetTorn.f k l0 l1 a2 a3 = some true
theorem assayerlaw1_OctetTorn.walk (P : assayerlaw1_OctetTorn.Pure) (a0 : Option Addr) (len0 cap0 : Nat) (z0 : List Int) (a1 : Option Addr) (len1 cap1 : Nat) (z1 : List Int) (a2 : Int) (a3 : Int) (w : World) (w0 : (a0 = none ∧ len0 = 0 ∧ cap0 = 0 ∧ z0 = []) ∨ ∃ x, a0 = some x ∧ len0 ≤ cap0 ∧ cap0 ≤ maxLen ∧ z0.length = cap0 ∧ (∀ i, i < z0.length → w.cell? (x.add i) = some (.int .u8 (z0.getD i 0))) ∧ ∀ n ∈ z0, (Lit.int .u8 n).wf = true) (y0 : len0 * 1 ≤ 140737488351232) (w1 : (a1 = none ∧ len1 = 0 ∧ cap1 = 0 ∧ z1 = []) ∨ ∃ x, a1 = some x ∧ len1 ≤ cap1 ∧ cap1 ≤ maxLen ∧ z1.length = cap1 ∧ (∀ i, i < z1.length → w.cell? (x.add i) = some (.int .u8 (z1.getD i 0))) ∧ ∀ n ∈ z1, (Lit.int .u8 n).wf = true) (y1 : len1 * 1 ≤ 140737488351232) (w2 : (Lit.int .u16 a2).wf = true) (w3 : (Lit.int .u16 a3).wf = true) :
    Calls Try.prog 12 #[.slice a0 len0 cap0, .slice a1 len1 cap1, .int .u16 a2, .int .u16 a3] w fun e w' => e = .returned (.bool true) ∧ Below w.heap.size w w' := by
  obtain ⟨l0, rfl, hr0, hm0, hw0, hc0⟩ := ReadsInt.ofRowC w0
  obtain ⟨l1, rfl, hr1, hm1, hw1, hc1⟩ := ReadsInt.ofRowC w1
  obtain ⟨k, h⟩ := P l0 l1 a2 a3 hm0 y0 hw0 hm1 y1 hw1 w2 w3
  refine (assayerlaw1_OctetTorn.calls k _ _ l0 _ _ l1 a2 a3 true w (Kd.C_of_reads (d := (0 : Int)) (h1 := fun _ => rfl) hr0) hc0 (Kd.C_of_reads (d := (0 : Int)) (h1 := fun _ => rfl) hr1) hc1 h rfl).mono ?_
  rintro e w' ⟨rfl, hd⟩
  exact ⟨rfl, hd⟩

end Go.Proofs.Ythgimjbmjeidpaa.POctet
