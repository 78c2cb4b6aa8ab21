-- Written by xprint.py, a program of this session, out of the translation, by way of the kit's printer. Lean checks it.
import Derived.Test.YthgimjbmjeidpaaPOctetx0
import Derived.Test.YthgimjbmjeidpaaPOctetx1
import Derived.Test.YthgimjbmjeidpaaPOctetx3
namespace Go.Proofs.Ythgimjbmjeidpaa.POctet
open Go.RowKit Go.Proofs.YthgimjbmjeidpaaW.PrintWords Go.Proofs.YthgimjbmjeidpaaW.PrintLast Go.Proofs.YthgimjbmjeidpaaW.PrintMore
attribute [local go_sem] max2_int min2_int max_two min_two max_three min_three max_four min_four   -- for this text's walks alone
set_option linter.unusedVariables false
set_option linter.unusedSimpArgs false

/-! ### assayerref1_Take: function 32 -/
mutual
def assayerref1_Take.j0 : Nat → List Int → Int → Bool → Option (Int × Int)
  | 0, _, _, _ => none
  | k + 1, x0, x1, x8 => if x8 = true then (some (0, 1)) else (if x1 > (x0.length : Int) then (some (0, 3)) else (assayerref1_Take.l0 k x0 x1 0 0))
def assayerref1_Take.l0 : Nat → List Int → Int → Int → Int → Option (Int × Int)
  | 0, _, _, _, _ => none
  | k + 1, x0, x1, x6, x7 => if x7 < x1 then (if 0 ≤ x7 then (if x7 < (x0.length : Int) then (assayerref1_Take.l0 k x0 x1 (IntKind.u64.wrap ((IntKind.u64.wrap (x6 * 256)) + (IntKind.u64.wrap (rd x0 x7)))) (wrap64 (x7 + 1))) else (none)) else (none)) else (some (x6, 0))
end
def assayerref1_Take.f (k : Nat) (l0 : List Int) (a1 : Int) : Option (Int × Int) := if a1 < 0 then (assayerref1_Take.j0 k l0 a1 true) else (assayerref1_Take.j0 k l0 a1 (decide (a1 > 8)))
theorem assayerref1_Take.mono_l : ∀ k, (∀ y0 y1 y2, LeO (assayerref1_Take.j0 k y0 y1 y2) (assayerref1_Take.j0 (k + 1) y0 y1 y2)) ∧ (∀ y0 y1 y2 y3, LeO (assayerref1_Take.l0 k y0 y1 y2 y3) (assayerref1_Take.l0 (k + 1) y0 y1 y2 y3))
  | 0 => ⟨fun _ _ _ r h => by simp [assayerref1_Take.j0] at h, fun _ _ _ _ r h => by simp [assayerref1_Take.l0] at h⟩
  | k + 1 => by
    obtain ⟨ih0, ih1⟩ := assayerref1_Take.mono_l k
    refine ⟨?_, ?_⟩
    · intro y0 y1 y2
      unfold assayerref1_Take.j0
      repeat' first
      | (with_reducible exact ih0 _ _ _)
      | (with_reducible exact ih1 _ _ _ _)
      | (with_reducible exact LeO.refl _)
      | (with_reducible exact LeO.none _)
      | (with_reducible refine LeO.ite ?_ ?_)
      | (with_reducible refine LeO.bind ?_ (fun _ => ?_))
      | exact ih0 _ _ _
      | exact ih1 _ _ _ _
      | exact LeO.none _
      | refine LeO.ite ?_ ?_
      | refine LeO.bind ?_ (fun _ => ?_)
    · intro y0 y1 y2 y3
      unfold assayerref1_Take.l0
      repeat' first
      | (with_reducible exact ih0 _ _ _)
      | (with_reducible exact ih1 _ _ _ _)
      | (with_reducible exact LeO.refl _)
      | (with_reducible exact LeO.none _)
      | (with_reducible refine LeO.ite ?_ ?_)
      | (with_reducible refine LeO.bind ?_ (fun _ => ?_))
      | exact ih0 _ _ _
      | exact ih1 _ _ _ _
      | exact LeO.none _
      | refine LeO.ite ?_ ?_
      | refine LeO.bind ?_ (fun _ => ?_)
theorem assayerref1_Take.mono : ∀ a0 a1 k, LeO (assayerref1_Take.f k a0 a1) (assayerref1_Take.f (k + 1) a0 a1) := by
  intro a0 a1 k
  obtain ⟨ih0, ih1⟩ := assayerref1_Take.mono_l k
  unfold assayerref1_Take.f
  repeat' first
      | (with_reducible exact ih0 _ _ _)
      | (with_reducible exact ih1 _ _ _ _)
      | (with_reducible exact LeO.refl _)
      | (with_reducible exact LeO.none _)
      | (with_reducible refine LeO.ite ?_ ?_)
      | (with_reducible refine LeO.bind ?_ (fun _ => ?_))
      | exact ih0 _ _ _
      | exact ih1 _ _ _ _
      | exact LeO.none _
      | refine LeO.ite ?_ ?_
      | refine LeO.bind ?_ (fun _ => ?_)
set_option maxHeartbeats 8000000 in
set_option maxRecDepth 100000 in
theorem assayerref1_Take.calls (k : Nat) (A0 : Option Addr) (c0 : Nat) (l0 : List Int) (a1 : Int) (r1 : Int) (r2 : Int) (w : World) (hr0 : Kd.C (Kd.int .u8) w A0 l0.length l0) (hc0 : l0.length ≤ c0) (h : assayerref1_Take.f k l0 a1 = some (r1, r2)) :
    Calls Try.prog 32 #[.slice A0 l0.length c0, .int .i64 a1] w fun e w' => e = .returned (.tuple #[.int .u64 r1, .int .i64 r2]) ∧ Drawn0 w w' := by
  have HR0 := Aside0.mk hr0
  have HC0 := Aside0.mk hc0
  clear hr0 hc0
  have H : (if a1 < 0 then (assayerref1_Take.j0 k l0 a1 true) else (assayerref1_Take.j0 k l0 a1 (decide (a1 > 8)))) = some (r1, r2) := h
  clear h
  have HC3 := Aside0.mk H
  clear H
  go_enter Try.func32, Try.ntmps32
  go_upto_region 1 with (fail)
  go_cut [8] (fun v8 wc => ∃ (kq : Nat) (x8_2 : Bool), v8 = .bool x8_2 ∧ Aside0 (assayerref1_Take.j0 kq l0 a1 x8_2 = some (r1, r2)) ∧ Aside0 (kq ≤ k) ∧ Drawn0 w wc)
  case first =>
    have H := HC3.out
    clear HC3
    by_cases c4 : a1 < 0
    · rw [if_pos c4] at H
      have c4b0 : decide (a1 < 0) = true := decide_eq_true c4
      clear c4
      (first | rw [c4b0] | (simp only [i64_w, i32_w]; rw [c4b0]) | skip)
      have H' := Aside0.mk H
      clear H
      go_wp2
      go_meet
      case rel => exact ⟨_, (true), (by first | rfl | (simp; done) | (simp [*]; done)), H', ⟨by first | omega | exact Nat.le_refl _⟩, by repeat (first | exact Drawn0.refl _ | apply Drawn0.step)⟩
    · rw [if_neg c4] at H
      have c4b0 : decide (a1 < 0) = false := decide_eq_false c4
      clear c4
      (first | rw [c4b0] | (simp only [i64_w, i32_w]; rw [c4b0]) | skip)
      have H' := Aside0.mk H
      clear H
      go_wp2
      go_meet
      case rel => exact ⟨_, (decide (a1 > 8)), (by first | rfl | (simp; done) | (simp [*]; done)), H', ⟨by first | omega | exact Nat.le_refl _⟩, by repeat (first | exact Drawn0.refl _ | apply Drawn0.step)⟩
  case rest =>
    clear HC3
    try clear p2
    try clear c3
    try clear c4
    try clear c4b0
    obtain ⟨kq, x8_2, rfl, HA, HJ2, ⟨mc2, rfl⟩⟩ := hcut
    cases kq with
    | zero => exact absurd HA.out (by simp [assayerref1_Take.j0])
    | succ kj2 =>
      have H := HA.out
      clear HA
      simp only [assayerref1_Take.j0] at H
      by_cases c5 : x8_2 = true
      · subst c5
        have H1 : (some (0, 1)) = some (r1, r2) := by rw [if_pos rfl] at H; exact H
        clear H
        have H := H1
        clear H1
        simp only [Option.some.injEq, Prod.mk.injEq] at H
        obtain ⟨rfl, rfl⟩ := H
        go_wp2
        go_ret2
        exact ⟨by first | rfl | (simp; done) | (simp [*]; done), by repeat (first | exact Drawn0.refl _ | apply Drawn0.step)⟩
      · replace c5 := Bool.eq_false_iff.mpr c5
        subst c5
        have H1 : (if a1 > (l0.length : Int) then (some (0, 3)) else (assayerref1_Take.l0 kj2 l0 a1 0 0)) = some (r1, r2) := by rw [if_neg (show ¬ (false = true) by decide)] at H; exact H
        clear H
        have H := H1
        clear H1
        by_cases c6 : a1 > (l0.length : Int)
        · rw [if_pos c6] at H
          have c6b0 : decide ((l0.length : Int) < a1) = true := decide_eq_true c6
          clear c6
          simp only [Option.some.injEq, Prod.mk.injEq] at H
          obtain ⟨rfl, rfl⟩ := H
          go_wp2
          go_ret2
          exact ⟨by first | rfl | (simp; done) | (simp [*]; done), by repeat (first | exact Drawn0.refl _ | apply Drawn0.step)⟩
        · rw [if_neg c6] at H
          have c6b0 : decide ((l0.length : Int) < a1) = false := decide_eq_false c6
          clear c6
          have H' := Aside0.mk H
          clear H
          go_wp2
          go_loopg [6, 7] kj2 (fun kq v6 v7 w' => ∃ (x6_2 : Int) (x7_2 : Int), v6 = .int .u64 x6_2 ∧ v7 = .int .i64 x7_2 ∧ Aside0 (assayerref1_Take.l0 kq l0 a1 x6_2 x7_2 = some (r1, r2)) ∧ Aside0 (kq ≤ kj2) ∧ Drawn0 w w')
          case atStart => exact ⟨(0), (0), (by first | rfl | (simp; done) | (simp [*]; done)), (by first | rfl | (simp; done) | (simp [*]; done)), H', ⟨Nat.le_refl _⟩, by repeat (first | exact Drawn0.refl _ | apply Drawn0.step)⟩
          case round =>
            clear H'
            try clear c2
            try clear p2
            try clear c3
            try clear c4
            try clear c4b0
            try clear c5
            try clear c6
            try clear c6b0
            try clear p2
            obtain ⟨x6_2, x7_2, rfl, rfl, HA, HK2, ⟨m2, rfl⟩⟩ := hrel
            cases gk with
            | zero => exact absurd HA.out (by simp [assayerref1_Take.l0])
            | succ k2 =>
              have H := HA.out
              clear HA
              simp only [assayerref1_Take.l0] at H
              by_cases c7 : x7_2 < a1
              · rw [if_pos c7] at H
                have c7b0 : decide (x7_2 < a1) = true := decide_eq_true c7
                clear c7
                by_cases c8 : 0 ≤ x7_2
                · rw [if_pos c8] at H
                  have c8b0 : decide (0 ≤ x7_2) = true := decide_eq_true c8
                  clear c8
                  by_cases c9 : x7_2 < (l0.length : Int)
                  · rw [if_pos c9] at H
                    have c9b0 : decide (x7_2 < (l0.length : Int)) = true := decide_eq_true c9
                    clear c9
                    have H' := Aside0.mk H
                    clear H
                    have p143 : 0 ≤ (x7_2 : Int) := of_decide_eq_true (by first | (with_reducible assumption) | assumption)
                    have q143 : x7_2 < (l0.length : Int) := of_decide_eq_true (by first | (with_reducible assumption) | assumption)
                    obtain ⟨ad143, e143, hx143_0⟩ := Kd.at_int HR0.out x7_2 p143 q143
                    cases e143
                    replace p143 := eq_true p143
                    replace q143 := eq_true q143
                    go_wp2
                    go_roundg k2
                    case measure => have := HJ2.out; have := HK2.out; omega
                    case rel => exact ⟨(IntKind.u64.wrap ((IntKind.u64.wrap (x6_2 * 256)) + (IntKind.u64.wrap (rd l0 x7_2)))), (wrap64 (x7_2 + 1)), (by first | rfl | (simp; done) | (simp [*]; done)), (by first | rfl | (simp; done) | (simp [*]; done)), H', ⟨by have := HJ2.out; have := HK2.out; omega⟩, by repeat (first | exact Drawn0.refl _ | apply Drawn0.step)⟩
                  · rw [if_neg c9] at H
                    exact absurd H (by simp)
                · rw [if_neg c8] at H
                  exact absurd H (by simp)
              · rw [if_neg c7] at H
                have c7b0 : decide (x7_2 < a1) = false := decide_eq_false c7
                clear c7
                simp only [Option.some.injEq, Prod.mk.injEq] at H
                obtain ⟨rfl, rfl⟩ := H
                go_wp2
                go_ret2
                exact ⟨by first | rfl | (simp; done) | (simp [*]; done), by repeat (first | exact Drawn0.refl _ | apply Drawn0.step)⟩

/-! ### assayerref1_TakeText: function 36 -/
def assayerref1_TakeText.f (k : Nat) (l0 : List Int) : Option (ByteArray × Int × Int) := (assayerref1_Take.f k l0 4).bind fun bt144 => (if bt144.2 = 0 then (if bt144.1 ≤ (IntKind.u64.wrap (wrap64 ((l0.length : Int) - 4))) then (if 4 ≤ (wrap64 (4 + (wrap64 (bt144.1)))) then (if (wrap64 (4 + (wrap64 (bt144.1)))) ≤ (l0.length : Int) then (some (strOfNums ((l0.take ((wrap64 (4 + (wrap64 (bt144.1)))) : Int).toNat).drop 4), wrap64 (4 + (wrap64 (bt144.1))), 0)) else (none)) else (none)) else (some ((⟨#[]⟩ : ByteArray), 0, 3))) else (some ((⟨#[]⟩ : ByteArray), 0, 3)))
theorem assayerref1_TakeText.mono : ∀ a0 k, LeO (assayerref1_TakeText.f k a0) (assayerref1_TakeText.f (k + 1) a0) := by
  intro a0 k
  unfold assayerref1_TakeText.f
  repeat' first
      | (with_reducible exact assayerref1_Take.mono _ _ _)
      | (with_reducible exact LeO.refl _)
      | (with_reducible exact LeO.none _)
      | (with_reducible refine LeO.ite ?_ ?_)
      | (with_reducible refine LeO.bind ?_ (fun _ => ?_))
      | exact assayerref1_Take.mono _ _ _
      | exact LeO.none _
      | refine LeO.ite ?_ ?_
      | refine LeO.bind ?_ (fun _ => ?_)
set_option maxHeartbeats 8000000 in
set_option maxRecDepth 100000 in
theorem assayerref1_TakeText.calls (k : Nat) (A0 : Option Addr) (c0 : Nat) (l0 : List Int) (r1 : ByteArray) (r2 : Int) (r3 : Int) (w : World) (hr0 : Kd.C (Kd.int .u8) w A0 l0.length l0) (hc0 : l0.length ≤ c0) (h : assayerref1_TakeText.f k l0 = some (r1, r2, r3)) :
    Calls Try.prog 36 #[.slice A0 l0.length c0] w fun e w' => e = .returned (.tuple #[.string r1, .int .i64 r2, .int .i64 r3]) ∧ Drawn0 w w' := by
  have HR0 := Aside0.mk hr0
  have HC0 := Aside0.mk hc0
  clear hr0 hc0
  have H : ((assayerref1_Take.f k l0 4).bind fun bt144 => (if bt144.2 = 0 then (if bt144.1 ≤ (IntKind.u64.wrap (wrap64 ((l0.length : Int) - 4))) then (if 4 ≤ (wrap64 (4 + (wrap64 (bt144.1)))) then (if (wrap64 (4 + (wrap64 (bt144.1)))) ≤ (l0.length : Int) then (some (strOfNums ((l0.take ((wrap64 (4 + (wrap64 (bt144.1)))) : Int).toNat).drop 4), wrap64 (4 + (wrap64 (bt144.1))), 0)) else (none)) else (none)) else (some ((⟨#[]⟩ : ByteArray), 0, 3))) else (some ((⟨#[]⟩ : ByteArray), 0, 3)))) = some (r1, r2, r3) := h
  clear h
  replace H := Option.bind_eq_some_iff.mp H
  obtain ⟨⟨t144, t145⟩, A20, H⟩ := H
  replace H : (if t145 = 0 then (if t144 ≤ (IntKind.u64.wrap (wrap64 ((l0.length : Int) - 4))) then (if 4 ≤ (wrap64 (4 + (wrap64 (t144)))) then (if (wrap64 (4 + (wrap64 (t144)))) ≤ (l0.length : Int) then (some (strOfNums ((l0.take ((wrap64 (4 + (wrap64 (t144)))) : Int).toNat).drop 4), wrap64 (4 + (wrap64 (t144))), 0)) else (none)) else (none)) else (some ((⟨#[]⟩ : ByteArray), 0, 3))) else (some ((⟨#[]⟩ : ByteArray), 0, 3))) = some (r1, r2, r3) := H
  have A2 := Aside0.mk A20
  clear A20
  by_cases c3 : t145 = 0
  · rw [if_pos c3] at H
    have c3b0 : (t145 == 0) = true := beq_iff_eq.mpr c3
    have c3b1 : (t145 != 0) = false := bne_eq_false_iff_eq.mpr c3
    clear c3
    by_cases c4 : t144 ≤ (IntKind.u64.wrap (wrap64 ((l0.length : Int) - 4)))
    · rw [if_pos c4] at H
      have c4b0 : decide (t144 ≤ (IntKind.u64.wrap (wrap64 ((l0.length : Int) - 4)))) = true := decide_eq_true c4
      clear c4
      by_cases c5 : 4 ≤ (wrap64 (4 + (wrap64 (t144))))
      · rw [if_pos c5] at H
        have c5b0 := eq_true c5
        have c5b1 : decide (4 ≤ (wrap64 (4 + (wrap64 (t144))))) = true := decide_eq_true c5
        by_cases c6 : (wrap64 (4 + (wrap64 (t144)))) ≤ (l0.length : Int)
        · rw [if_pos c6] at H
          have c6b0 := eq_true c6
          have c6b1 : decide ((wrap64 (4 + (wrap64 (t144)))) ≤ (l0.length : Int)) = true := decide_eq_true c6
          simp only [Option.some.injEq, Prod.mk.injEq] at H
          obtain ⟨rfl, rfl, rfl⟩ := H
          go_enter Try.func36, Try.ntmps36
          go_wp2_with (first | ((with_reducible refine gate_callee (f := 32) rfl ?_); refine goesL_ (some 10) rfl rfl Try.func32 (by kernel_rfl) rfl #[.slice A0 l0.length c0, .int .i64 4] rfl (by (try simp only [List.map_toArray, List.map_cons, List.map_nil]); first | done | rfl | (simp only [List.length_drop, List.length_take]; rfl)) ?_; (with_reducible refine (assayerref1_Take.calls k _ _ l0 4 t144 t145 _ ?side1 ?side2 A2.out).mono ?_); (case side1 => repeat (first | exact HR0.out | (with_reducible refine Kd.C_alloc ?_ _) | (with_reducible refine Kd.C_drewN ?_ _) | (with_reducible refine Kd.C_drew ?_))); (case side2 => exact HC0.out); rintro e w' ⟨rfl, ⟨nd, rfl⟩⟩; refine ⟨_, rfl, ?_⟩; obtain ⟨i07, hi07, _, hsz7, _⟩ := info_parts info5; obtain ⟨A7, hcut7, hA7, hC7⟩ := print_mid_of (P := Try.prog) (Value.int .u8) 0 24 5 .i64 .i64 Try.underlying24 hi07 hsz7 A0 c0 l0 4 (wrap64 (4 + (wrap64 (t144)))) (by omega) (by first | omega | exact of_decide_eq_true (by first | (with_reducible assumption) | assumption)) (of_decide_eq_true (by first | (with_reducible assumption) | assumption)) HC0.out; have HR146 := Aside0.mk (Kd.C_of_reads (h1 := fun _ => rfl) (hA7 _ (Kd.reads_of_C HR0.out))); have HC146 := Aside0.mk hC7; clear hA7 hC7 hi07 hsz7; have hcv8 := Kd.C_string (P := Try.prog) (A := A7) (c := (c0 - 4)) Try.underlying24 Try.underlying5 Try.underlying9 HR146.out; have hcvd146 := fun m_ : Nat => Kd.C_string (P := Try.prog) (A := A7) (c := (c0 - 4)) Try.underlying24 Try.underlying5 Try.underlying9 (Kd.C_drewN HR146.out m_); have hcve146 := hcvd146; (try simp only [List.length_drop, List.length_take, Int.reduceToNat] at hcve146); (try rw [Nat.min_eq_left (by omega)] at hcve146)))
          go_ret3
          exact ⟨by first | rfl | (simp; done) | (simp [*]; done), by repeat (first | exact Drawn0.refl _ | apply Drawn0.step)⟩
        · rw [if_neg c6] at H
          exact absurd H (by simp)
      · rw [if_neg c5] at H
        exact absurd H (by simp)
    · rw [if_neg c4] at H
      have c4b0 : decide (t144 ≤ (IntKind.u64.wrap (wrap64 ((l0.length : Int) - 4)))) = false := decide_eq_false c4
      clear c4
      simp only [Option.some.injEq, Prod.mk.injEq] at H
      obtain ⟨rfl, rfl, rfl⟩ := H
      go_enter Try.func36, Try.ntmps36
      go_wp2_with (first | ((with_reducible refine gate_callee (f := 32) rfl ?_); refine goesL_ (some 10) rfl rfl Try.func32 (by kernel_rfl) rfl #[.slice A0 l0.length c0, .int .i64 4] rfl (by (try simp only [List.map_toArray, List.map_cons, List.map_nil]); first | done | rfl | (simp only [List.length_drop, List.length_take]; rfl)) ?_; (with_reducible refine (assayerref1_Take.calls k _ _ l0 4 t144 t145 _ ?side1 ?side2 A2.out).mono ?_); (case side1 => repeat (first | exact HR0.out | (with_reducible refine Kd.C_alloc ?_ _) | (with_reducible refine Kd.C_drewN ?_ _) | (with_reducible refine Kd.C_drew ?_))); (case side2 => exact HC0.out); rintro e w' ⟨rfl, ⟨nd, rfl⟩⟩; refine ⟨_, rfl, ?_⟩))
      go_ret3
      exact ⟨by first | rfl | (simp; done) | (simp [*]; done), by repeat (first | exact Drawn0.refl _ | apply Drawn0.step)⟩
  · rw [if_neg c3] at H
    have c3b0 : (t145 == 0) = false := beq_eq_false_iff_ne.mpr c3
    have c3b1 : (t145 != 0) = true := bne_iff_ne.mpr c3
    simp only [Option.some.injEq, Prod.mk.injEq] at H
    obtain ⟨rfl, rfl, rfl⟩ := H
    go_enter Try.func36, Try.ntmps36
    go_wp2_with (first | ((with_reducible refine gate_callee (f := 32) rfl ?_); refine goesL_ (some 10) rfl rfl Try.func32 (by kernel_rfl) rfl #[.slice A0 l0.length c0, .int .i64 4] rfl (by (try simp only [List.map_toArray, List.map_cons, List.map_nil]); first | done | rfl | (simp only [List.length_drop, List.length_take]; rfl)) ?_; (with_reducible refine (assayerref1_Take.calls k _ _ l0 4 t144 t145 _ ?side1 ?side2 A2.out).mono ?_); (case side1 => repeat (first | exact HR0.out | (with_reducible refine Kd.C_alloc ?_ _) | (with_reducible refine Kd.C_drewN ?_ _) | (with_reducible refine Kd.C_drew ?_))); (case side2 => exact HC0.out); rintro e w' ⟨rfl, ⟨nd, rfl⟩⟩; refine ⟨_, rfl, ?_⟩))
    go_ret3
    exact ⟨by first | rfl | (simp; done) | (simp [*]; done), by repeat (first | exact Drawn0.refl _ | apply Drawn0.step)⟩

/-! ### assayerlaw1_OctetTexts: function 10 -/
mutual
def assayerlaw1_OctetTexts.j0 : Nat → ByteArray → ByteArray → List Int → Bool → Option (Bool)
  | 0, _, _, _, _ => none
  | k + 1, x0, x1, x2, x34 => if x34 = true then (some true) else ((octet_TakeText.f k x2).bind fun bt149 => ((assayerref1_TakeText.f k x2).bind fun bt152 => (if bt149.1.toList = bt152.1.toList then (if bt149.2.1 = bt152.2.1 then (assayerlaw1_OctetTexts.j1 k x0 x1 (bt149.2.2 != bt152.2.2)) else (assayerlaw1_OctetTexts.j1 k x0 x1 true)) else (assayerlaw1_OctetTexts.j1 k x0 x1 true))))
def assayerlaw1_OctetTexts.j1 : Nat → ByteArray → ByteArray → Bool → Option (Bool)
  | 0, _, _, _ => none
  | k + 1, x0, x1, x59 => if x59 = true then (some false) else ((octet_PutText.f k ([] : List Int) x0).bind fun t155 => ((octet_PutText.f k t155 x1).bind fun t158 => ((octet_TakeText.f k t158).bind fun bt161 => (if bt161.2.2 = 0 then (if bt161.1.toList = x0.toList then (if bt161.2.1 = (wrap64 (4 + (x0.size : Int))) then (if bt161.2.1 > (t158.length : Int) then (some false) else (if 0 ≤ bt161.2.1 then (if bt161.2.1 ≤ (t158.length : Int) then ((octet_TakeText.f k (t158.drop (bt161.2.1 : Int).toNat)).bind fun bt168 => (if bt168.2.2 = 0 then (if bt168.1.toList = x1.toList then (some ((wrap64 (bt161.2.1 + bt168.2.1)) == (t158.length : Int))) else (some false)) else (some false))) else (none)) else (none))) else (some false)) else (some false)) else (some false)))))
end
def assayerlaw1_OctetTexts.f (k : Nat) (a0 : ByteArray) (a1 : ByteArray) (l2 : List Int) : Option (Bool) := (assayerlaw1_begun.f).bind fun t148 => (if t148 = true then (if (a0.size : Int) > 60 then (assayerlaw1_OctetTexts.j0 k a0 a1 l2 true) else (if (a1.size : Int) > 60 then (assayerlaw1_OctetTexts.j0 k a0 a1 l2 true) else (assayerlaw1_OctetTexts.j0 k a0 a1 l2 (decide ((l2.length : Int) > 60))))) else (some false))
theorem assayerlaw1_OctetTexts.mono_l : ∀ k, (∀ y0 y1 y2 y3, LeO (assayerlaw1_OctetTexts.j0 k y0 y1 y2 y3) (assayerlaw1_OctetTexts.j0 (k + 1) y0 y1 y2 y3)) ∧ (∀ y0 y1 y2, LeO (assayerlaw1_OctetTexts.j1 k y0 y1 y2) (assayerlaw1_OctetTexts.j1 (k + 1) y0 y1 y2))
  | 0 => ⟨fun _ _ _ _ r h => by simp [assayerlaw1_OctetTexts.j0] at h, fun _ _ _ r h => by simp [assayerlaw1_OctetTexts.j1] at h⟩
  | k + 1 => by
    obtain ⟨ih0, ih1⟩ := assayerlaw1_OctetTexts.mono_l k
    refine ⟨?_, ?_⟩
    · intro y0 y1 y2 y3
      unfold assayerlaw1_OctetTexts.j0
      repeat' first
      | (with_reducible exact ih0 _ _ _ _)
      | (with_reducible exact ih1 _ _ _)
      | (with_reducible exact assayerref1_TakeText.mono _ _)
      | (with_reducible exact octet_PutText.mono _ _ _)
      | (with_reducible exact octet_TakeText.mono _ _)
      | (with_reducible exact LeO.refl _)
      | (with_reducible exact LeO.none _)
      | (with_reducible refine LeO.ite ?_ ?_)
      | (with_reducible refine LeO.bind ?_ (fun _ => ?_))
      | exact ih0 _ _ _ _
      | exact ih1 _ _ _
      | exact assayerref1_TakeText.mono _ _
      | exact octet_PutText.mono _ _ _
      | exact octet_TakeText.mono _ _
      | exact LeO.none _
      | refine LeO.ite ?_ ?_
      | refine LeO.bind ?_ (fun _ => ?_)
    · intro y0 y1 y2
      unfold assayerlaw1_OctetTexts.j1
      repeat' first
      | (with_reducible exact ih0 _ _ _ _)
      | (with_reducible exact ih1 _ _ _)
      | (with_reducible exact assayerref1_TakeText.mono _ _)
      | (with_reducible exact octet_PutText.mono _ _ _)
      | (with_reducible exact octet_TakeText.mono _ _)
      | (with_reducible exact LeO.refl _)
      | (with_reducible exact LeO.none _)
      | (with_reducible refine LeO.ite ?_ ?_)
      | (with_reducible refine LeO.bind ?_ (fun _ => ?_))
      | exact ih0 _ _ _ _
      | exact ih1 _ _ _
      | exact assayerref1_TakeText.mono _ _
      | exact octet_PutText.mono _ _ _
      | exact octet_TakeText.mono _ _
      | exact LeO.none _
      | refine LeO.ite ?_ ?_
      | refine LeO.bind ?_ (fun _ => ?_)
theorem assayerlaw1_OctetTexts.mono : ∀ a0 a1 a2 k, LeO (assayerlaw1_OctetTexts.f k a0 a1 a2) (assayerlaw1_OctetTexts.f (k + 1) a0 a1 a2) := by
  intro a0 a1 a2 k
  obtain ⟨ih0, ih1⟩ := assayerlaw1_OctetTexts.mono_l k
  unfold assayerlaw1_OctetTexts.f
  repeat' first
      | (with_reducible exact ih0 _ _ _ _)
      | (with_reducible exact ih1 _ _ _)
      | (with_reducible exact assayerref1_TakeText.mono _ _)
      | (with_reducible exact octet_PutText.mono _ _ _)
      | (with_reducible exact octet_TakeText.mono _ _)
      | (with_reducible exact LeO.refl _)
      | (with_reducible exact LeO.none _)
      | (with_reducible refine LeO.ite ?_ ?_)
      | (with_reducible refine LeO.bind ?_ (fun _ => ?_))
      | exact ih0 _ _ _ _
      | exact ih1 _ _ _
      | exact assayerref1_TakeText.mono _ _
      | exact octet_PutText.mono _ _ _
      | exact octet_TakeText.mono _ _
      | exact LeO.none _
      | refine LeO.ite ?_ ?_
      | refine LeO.bind ?_ (fun _ => ?_)
set_option maxHeartbeats 8000000 in
set_option maxRecDepth 100000 in
theorem assayerlaw1_OctetTexts.calls (k : Nat) (a0 : ByteArray) (a1 : ByteArray) (A2 : Option Addr) (c2 : Nat) (l2 : List Int) (r : Bool) (w : World) (hr2 : Kd.C (Kd.int .u8) w A2 l2.length l2) (hc2 : l2.length ≤ c2) (h : assayerlaw1_OctetTexts.f k a0 a1 l2 = some r) (hrt : r = true) :
    Calls Try.prog 10 #[.string a0, .string a1, .slice A2 l2.length c2] w fun e w' => e = .returned (.bool r) ∧ Below w.heap.size w w' := by
  have HR2 := Aside0.mk hr2
  have HC2 := Aside0.mk hc2
  clear hr2 hc2
  have HB := Aside0.mk (Below.refl w.heap.size w)
  have H : ((assayerlaw1_begun.f).bind fun t148 => (if t148 = true then (if (a0.size : Int) > 60 then (assayerlaw1_OctetTexts.j0 k a0 a1 l2 true) else (if (a1.size : Int) > 60 then (assayerlaw1_OctetTexts.j0 k a0 a1 l2 true) else (assayerlaw1_OctetTexts.j0 k a0 a1 l2 (decide ((l2.length : Int) > 60))))) else (some false))) = some r := h
  clear h
  replace H := Option.bind_eq_some_iff.mp H
  obtain ⟨t148, A40, H⟩ := H
  replace H : (if t148 = true then (if (a0.size : Int) > 60 then (assayerlaw1_OctetTexts.j0 k a0 a1 l2 true) else (if (a1.size : Int) > 60 then (assayerlaw1_OctetTexts.j0 k a0 a1 l2 true) else (assayerlaw1_OctetTexts.j0 k a0 a1 l2 (decide ((l2.length : Int) > 60))))) else (some false)) = some r := H
  have A4 := Aside0.mk A40
  clear A40
  by_cases c5 : t148 = true
  · subst c5
    have H1 : (if (a0.size : Int) > 60 then (assayerlaw1_OctetTexts.j0 k a0 a1 l2 true) else (if (a1.size : Int) > 60 then (assayerlaw1_OctetTexts.j0 k a0 a1 l2 true) else (assayerlaw1_OctetTexts.j0 k a0 a1 l2 (decide ((l2.length : Int) > 60))))) = some r := by rw [if_pos rfl] at H; exact H
    clear H
    have H := H1
    clear H1
    have HC6 := Aside0.mk H
    clear H
    go_enter Try.func10, Try.ntmps10
    go_upto_region 3 with (first | ((with_reducible refine gate_callee (f := 30) rfl ?_); refine goesL_ (some 20) rfl rfl Try.func30 (by kernel_rfl) rfl #[] rfl (by (try simp only [List.map_toArray, List.map_cons, List.map_nil]); first | done | rfl | (simp only [List.length_drop, List.length_take]; rfl)) ?_; (with_reducible refine (assayerlaw1_begun.calls  true _ A4.out).mono ?_); rintro e w7 ⟨rfl, hb⟩; refine ⟨_, rfl, ?_⟩; have n0_ := Aside0.mk (below_step (by repeat (first | (with_reducible first | exact HB.out | apply below_alloc | apply pw_below_drewN | apply below_drew1) | exact HB.out)) hb); clear HB; have HB := n0_; clear n0_; (try clear hb); (try clear hb2); (try clear hk); (try clear hi)))
    (try simp only [Act.put, List.setIfInBounds_toArray, List.set_cons_zero, List.set_cons_succ])
    go_cut [34] (fun v34 wc => ∃ (kq : Nat) (x34_5 : Bool), v34 = .bool x34_5 ∧ Aside0 (assayerlaw1_OctetTexts.j0 kq a0 a1 l2 x34_5 = some r) ∧ Aside0 (kq ≤ k) ∧ Aside0 (Below w.heap.size w wc))
    case first =>
      have H := HC6.out
      clear HC6
      by_cases c8 : (a0.size : Int) > 60
      · rw [if_pos c8] at H
        have c8b0 : decide (60 < (a0.size : Int)) = true := decide_eq_true c8
        have c8b1 : decide (60 < a0.size) = true := decide_eq_true (by omega)
        clear c8
        (first | rw [c8b0] | (simp only [i64_w, i32_w]; rw [c8b0]) | skip)
        have H' := Aside0.mk H
        clear H
        go_wp2
        go_meet
        case rel => exact ⟨_, (true), (by first | rfl | (simp; done) | (simp [*]; done)), H', ⟨by first | omega | exact Nat.le_refl _⟩, ⟨by repeat (first | (with_reducible first | exact HB.out | apply below_alloc | apply pw_below_drewN | apply below_drew1) | exact HB.out)⟩⟩
      · rw [if_neg c8] at H
        have c8b0 : decide (60 < (a0.size : Int)) = false := decide_eq_false c8
        have c8b1 : decide (60 < a0.size) = false := decide_eq_false (by omega)
        clear c8
        (first | rw [c8b0] | (simp only [i64_w, i32_w]; rw [c8b0]) | skip)
        by_cases c9 : (a1.size : Int) > 60
        · rw [if_pos c9] at H
          have c9b0 : decide (60 < (a1.size : Int)) = true := decide_eq_true c9
          have c9b1 : decide (60 < a1.size) = true := decide_eq_true (by omega)
          clear c9
          have H' := Aside0.mk H
          clear H
          go_wp2
          go_meet
          case rel => exact ⟨_, (true), (by first | rfl | (simp; done) | (simp [*]; done)), H', ⟨by first | omega | exact Nat.le_refl _⟩, ⟨by repeat (first | (with_reducible first | exact HB.out | apply below_alloc | apply pw_below_drewN | apply below_drew1) | exact HB.out)⟩⟩
        · rw [if_neg c9] at H
          have c9b0 : decide (60 < (a1.size : Int)) = false := decide_eq_false c9
          have c9b1 : decide (60 < a1.size) = false := decide_eq_false (by omega)
          clear c9
          have H' := Aside0.mk H
          clear H
          go_wp2
          go_meet
          case rel => exact ⟨_, (decide ((l2.length : Int) > 60)), (by first | rfl | (simp; done) | (simp [*]; done)), H', ⟨by first | omega | exact Nat.le_refl _⟩, ⟨by repeat (first | (with_reducible first | exact HB.out | apply below_alloc | apply pw_below_drewN | apply below_drew1) | exact HB.out)⟩⟩
    case rest =>
      clear HC6
      try clear c1
      try clear c2
      try clear p2
      try clear c3
      try clear c5
      try clear c8
      try clear c8b0
      try clear c8b1
      try clear c9
      try clear c9b0
      try clear c9b1
      obtain ⟨kq, x34_5, rfl, HA, HJ5, HB⟩ := hcut
      cases kq with
      | zero => exact absurd HA.out (by simp [assayerlaw1_OctetTexts.j0])
      | succ kj5 =>
        have H := HA.out
        clear HA
        simp only [assayerlaw1_OctetTexts.j0] at H
        by_cases c10 : x34_5 = true
        · subst c10
          have H1 : (some true) = some r := by rw [if_pos rfl] at H; exact H
          clear H
          have H := H1
          clear H1
          obtain rfl := Option.some.inj H
          go_wp2
          go_ret
          exact ⟨by first | rfl | (simp [errW_none, errW_some] <;> rfl) | (simp [*, errW_none, errW_some] <;> rfl), by repeat (first | (with_reducible first | exact HB.out | apply below_alloc | apply pw_below_drewN | apply below_drew1) | exact HB.out)⟩
        · replace c10 := Bool.eq_false_iff.mpr c10
          subst c10
          have H1 : ((octet_TakeText.f kj5 l2).bind fun bt149 => ((assayerref1_TakeText.f kj5 l2).bind fun bt152 => (if bt149.1.toList = bt152.1.toList then (if bt149.2.1 = bt152.2.1 then (assayerlaw1_OctetTexts.j1 kj5 a0 a1 (bt149.2.2 != bt152.2.2)) else (assayerlaw1_OctetTexts.j1 kj5 a0 a1 true)) else (assayerlaw1_OctetTexts.j1 kj5 a0 a1 true)))) = some r := by rw [if_neg (show ¬ (false = true) by decide)] at H; exact H
          clear H
          have H := H1
          clear H1
          replace H := Option.bind_eq_some_iff.mp H
          obtain ⟨⟨t149, t150, t151⟩, A110, H⟩ := H
          replace H : ((assayerref1_TakeText.f kj5 l2).bind fun bt152 => (if t149.toList = bt152.1.toList then (if t150 = bt152.2.1 then (assayerlaw1_OctetTexts.j1 kj5 a0 a1 (t151 != bt152.2.2)) else (assayerlaw1_OctetTexts.j1 kj5 a0 a1 true)) else (assayerlaw1_OctetTexts.j1 kj5 a0 a1 true))) = some r := H
          have A11 := Aside0.mk A110
          clear A110
          replace H := Option.bind_eq_some_iff.mp H
          obtain ⟨⟨t152, t153, t154⟩, A120, H⟩ := H
          replace H : (if t149.toList = t152.toList then (if t150 = t153 then (assayerlaw1_OctetTexts.j1 kj5 a0 a1 (t151 != t154)) else (assayerlaw1_OctetTexts.j1 kj5 a0 a1 true)) else (assayerlaw1_OctetTexts.j1 kj5 a0 a1 true)) = some r := H
          have A12 := Aside0.mk A120
          clear A120
          have HC13 := Aside0.mk H
          clear H
          go_upto_region 7 with (first | ((with_reducible refine gate_callee (f := 35) rfl ?_); refine goesL_ (some 37) rfl rfl Try.func35 (by kernel_rfl) rfl #[.slice A2 l2.length c2] rfl (by (try simp only [List.map_toArray, List.map_cons, List.map_nil]); first | done | rfl | (simp only [List.length_drop, List.length_take]; rfl)) ?_; (with_reducible refine (octet_TakeText.calls kj5 _ _ l2 t149 t150 t151 _ ?side1 ?side2 A11.out).mono ?_); (case side1 => repeat (first | exact (Kd.C_below HR2.out HB.out) | (with_reducible refine Kd.C_alloc ?_ _) | (with_reducible refine Kd.C_drewN ?_ _) | (with_reducible refine Kd.C_drew ?_))); (case side2 => exact HC2.out); rintro e w' ⟨rfl, ⟨nd, rfl⟩⟩; refine ⟨_, rfl, ?_⟩) | ((with_reducible refine gate_callee (f := 36) rfl ?_); refine goesL_ (some 43) rfl rfl Try.func36 (by kernel_rfl) rfl #[.slice A2 l2.length c2] rfl (by (try simp only [List.map_toArray, List.map_cons, List.map_nil]); first | done | rfl | (simp only [List.length_drop, List.length_take]; rfl)) ?_; (with_reducible refine (assayerref1_TakeText.calls kj5 _ _ l2 t152 t153 t154 _ ?side1 ?side2 A12.out).mono ?_); (case side1 => repeat (first | exact (Kd.C_below HR2.out (by repeat (first | (with_reducible first | exact HB.out | apply below_alloc | apply pw_below_drewN | apply below_drew1) | exact HB.out))) | (with_reducible refine Kd.C_alloc ?_ _) | (with_reducible refine Kd.C_drewN ?_ _) | (with_reducible refine Kd.C_drew ?_))); (case side2 => exact HC2.out); rintro e w' ⟨rfl, ⟨nd, rfl⟩⟩; refine ⟨_, rfl, ?_⟩))
          (try simp only [Act.put, List.setIfInBounds_toArray, List.set_cons_zero, List.set_cons_succ])
          go_cut [59] (fun v59 wc => ∃ (kq : Nat) (x59_12 : Bool), v59 = .bool x59_12 ∧ Aside0 (assayerlaw1_OctetTexts.j1 kq a0 a1 x59_12 = some r) ∧ Aside0 (kq ≤ kj5) ∧ Aside0 (Below w.heap.size w wc))
          case first =>
            have H := HC13.out
            clear HC13
            by_cases c14 : t149.toList = t152.toList
            · rw [if_pos c14] at H
              have c14b0 : (t149.toList == t152.toList) = true := beq_iff_eq.mpr c14
              have c14b1 : (t149.toList != t152.toList) = false := bne_eq_false_iff_eq.mpr c14
              clear c14
              (first | rw [c14b0] | (simp only [i64_w, i32_w]; rw [c14b0]) | skip)
              by_cases c15 : t150 = t153
              · rw [if_pos c15] at H
                have c15b0 : (t150 == t153) = true := beq_iff_eq.mpr c15
                have c15b1 : (t150 != t153) = false := bne_eq_false_iff_eq.mpr c15
                clear c15
                have H' := Aside0.mk H
                clear H
                go_wp2
                go_meet
                case rel => exact ⟨_, ((t151 != t154)), (by first | rfl | (simp; done) | (simp [*]; done)), H', ⟨by have := HJ5.out; first | omega | exact Nat.le_refl _⟩, ⟨by repeat (first | (with_reducible first | exact HB.out | apply below_alloc | apply pw_below_drewN | apply below_drew1) | exact HB.out)⟩⟩
              · rw [if_neg c15] at H
                have c15b0 : (t150 == t153) = false := beq_eq_false_iff_ne.mpr c15
                have c15b1 : (t150 != t153) = true := bne_iff_ne.mpr c15
                have H' := Aside0.mk H
                clear H
                go_wp2
                go_meet
                case rel => exact ⟨_, (true), (by first | rfl | (simp; done) | (simp [*]; done)), H', ⟨by have := HJ5.out; first | omega | exact Nat.le_refl _⟩, ⟨by repeat (first | (with_reducible first | exact HB.out | apply below_alloc | apply pw_below_drewN | apply below_drew1) | exact HB.out)⟩⟩
            · rw [if_neg c14] at H
              have c14b0 : (t149.toList == t152.toList) = false := beq_eq_false_iff_ne.mpr c14
              have c14b1 : (t149.toList != t152.toList) = true := bne_iff_ne.mpr c14
              (first | rw [c14b0] | (simp only [i64_w, i32_w]; rw [c14b0]) | skip)
              have H' := Aside0.mk H
              clear H
              go_wp2
              go_meet
              case rel => exact ⟨_, (true), (by first | rfl | (simp; done) | (simp [*]; done)), H', ⟨by have := HJ5.out; first | omega | exact Nat.le_refl _⟩, ⟨by repeat (first | (with_reducible first | exact HB.out | apply below_alloc | apply pw_below_drewN | apply below_drew1) | exact HB.out)⟩⟩
          case rest =>
            clear HC13
            try clear c1
            try clear c2
            try clear p2
            try clear c3
            try clear c5
            try clear c8
            try clear c8b0
            try clear c8b1
            try clear c9
            try clear c9b0
            try clear c9b1
            try clear c10
            try clear c14
            try clear c14b0
            try clear c14b1
            try clear c15
            try clear c15b0
            try clear c15b1
            try clear p2
            obtain ⟨kq, x59_12, rfl, HA, HJ12, HB⟩ := hcut
            cases kq with
            | zero => exact absurd HA.out (by simp [assayerlaw1_OctetTexts.j1])
            | succ kj12 =>
              have H := HA.out
              clear HA
              simp only [assayerlaw1_OctetTexts.j1] at H
              by_cases c16 : x59_12 = true
              · subst c16
                have H1 : (some false) = some r := by rw [if_pos rfl] at H; exact H
                clear H
                have H := H1
                clear H1
                exact absurd (Option.some.inj H) (by rw [hrt]; decide)
              · replace c16 := Bool.eq_false_iff.mpr c16
                subst c16
                have H1 : ((octet_PutText.f kj12 ([] : List Int) a0).bind fun t155 => ((octet_PutText.f kj12 t155 a1).bind fun t158 => ((octet_TakeText.f kj12 t158).bind fun bt161 => (if bt161.2.2 = 0 then (if bt161.1.toList = a0.toList then (if bt161.2.1 = (wrap64 (4 + (a0.size : Int))) then (if bt161.2.1 > (t158.length : Int) then (some false) else (if 0 ≤ bt161.2.1 then (if bt161.2.1 ≤ (t158.length : Int) then ((octet_TakeText.f kj12 (t158.drop (bt161.2.1 : Int).toNat)).bind fun bt168 => (if bt168.2.2 = 0 then (if bt168.1.toList = a1.toList then (some ((wrap64 (bt161.2.1 + bt168.2.1)) == (t158.length : Int))) else (some false)) else (some false))) else (none)) else (none))) else (some false)) else (some false)) else (some false))))) = some r := by rw [if_neg (show ¬ (false = true) by decide)] at H; exact H
                clear H
                have H := H1
                clear H1
                replace H := Option.bind_eq_some_iff.mp H
                obtain ⟨t155, A170, H⟩ := H
                replace H : ((octet_PutText.f kj12 t155 a1).bind fun t158 => ((octet_TakeText.f kj12 t158).bind fun bt161 => (if bt161.2.2 = 0 then (if bt161.1.toList = a0.toList then (if bt161.2.1 = (wrap64 (4 + (a0.size : Int))) then (if bt161.2.1 > (t158.length : Int) then (some false) else (if 0 ≤ bt161.2.1 then (if bt161.2.1 ≤ (t158.length : Int) then ((octet_TakeText.f kj12 (t158.drop (bt161.2.1 : Int).toNat)).bind fun bt168 => (if bt168.2.2 = 0 then (if bt168.1.toList = a1.toList then (some ((wrap64 (bt161.2.1 + bt168.2.1)) == (t158.length : Int))) else (some false)) else (some false))) else (none)) else (none))) else (some false)) else (some false)) else (some false)))) = some r := H
                have A17 := Aside0.mk A170
                clear A170
                replace H := Option.bind_eq_some_iff.mp H
                obtain ⟨t158, A180, H⟩ := H
                replace H : ((octet_TakeText.f kj12 t158).bind fun bt161 => (if bt161.2.2 = 0 then (if bt161.1.toList = a0.toList then (if bt161.2.1 = (wrap64 (4 + (a0.size : Int))) then (if bt161.2.1 > (t158.length : Int) then (some false) else (if 0 ≤ bt161.2.1 then (if bt161.2.1 ≤ (t158.length : Int) then ((octet_TakeText.f kj12 (t158.drop (bt161.2.1 : Int).toNat)).bind fun bt168 => (if bt168.2.2 = 0 then (if bt168.1.toList = a1.toList then (some ((wrap64 (bt161.2.1 + bt168.2.1)) == (t158.length : Int))) else (some false)) else (some false))) else (none)) else (none))) else (some false)) else (some false)) else (some false))) = some r := H
                have A18 := Aside0.mk A180
                clear A180
                replace H := Option.bind_eq_some_iff.mp H
                obtain ⟨⟨t161, t162, t163⟩, A190, H⟩ := H
                replace H : (if t163 = 0 then (if t161.toList = a0.toList then (if t162 = (wrap64 (4 + (a0.size : Int))) then (if t162 > (t158.length : Int) then (some false) else (if 0 ≤ t162 then (if t162 ≤ (t158.length : Int) then ((octet_TakeText.f kj12 (t158.drop (t162 : Int).toNat)).bind fun bt168 => (if bt168.2.2 = 0 then (if bt168.1.toList = a1.toList then (some ((wrap64 (t162 + bt168.2.1)) == (t158.length : Int))) else (some false)) else (some false))) else (none)) else (none))) else (some false)) else (some false)) else (some false)) = some r := H
                have A19 := Aside0.mk A190
                clear A190
                by_cases c20 : t163 = 0
                · rw [if_pos c20] at H
                  have c20b0 : (t163 == 0) = true := beq_iff_eq.mpr c20
                  have c20b1 : (t163 != 0) = false := bne_eq_false_iff_eq.mpr c20
                  clear c20
                  by_cases c21 : t161.toList = a0.toList
                  · rw [if_pos c21] at H
                    have c21b0 : (t161.toList == a0.toList) = true := beq_iff_eq.mpr c21
                    have c21b1 : (t161.toList != a0.toList) = false := bne_eq_false_iff_eq.mpr c21
                    clear c21
                    by_cases c22 : t162 = (wrap64 (4 + (a0.size : Int)))
                    · rw [if_pos c22] at H
                      have c22b0 : (t162 == (wrap64 (4 + (a0.size : Int)))) = true := beq_iff_eq.mpr c22
                      have c22b1 : (t162 != (wrap64 (4 + (a0.size : Int)))) = false := bne_eq_false_iff_eq.mpr c22
                      clear c22
                      by_cases c23 : t162 > (t158.length : Int)
                      · rw [if_pos c23] at H
                        have c23b0 : decide ((t158.length : Int) < t162) = true := decide_eq_true c23
                        clear c23
                        exact absurd (Option.some.inj H) (by rw [hrt]; decide)
                      · rw [if_neg c23] at H
                        have c23b0 : decide ((t158.length : Int) < t162) = false := decide_eq_false c23
                        clear c23
                        by_cases c24 : 0 ≤ t162
                        · rw [if_pos c24] at H
                          have c24b0 := eq_true c24
                          have c24b1 : decide (0 ≤ t162) = true := decide_eq_true c24
                          clear c24
                          by_cases c25 : t162 ≤ (t158.length : Int)
                          · rw [if_pos c25] at H
                            have c25b0 := eq_true c25
                            have c25b1 : decide (t162 ≤ (t158.length : Int)) = true := decide_eq_true c25
                            clear c25
                            obtain ⟨y164, hy164⟩ : ∃ y_ : List Int, y_ = (t158.drop (t162 : Int).toNat) := ⟨_, rfl⟩
                            replace H : ((octet_TakeText.f kj12 y164).bind fun bt168 => (if bt168.2.2 = 0 then (if bt168.1.toList = a1.toList then (some ((wrap64 (t162 + bt168.2.1)) == (t158.length : Int))) else (some false)) else (some false))) = some r := by first | (rw [hy164]; with_reducible exact H) | (have H2_ := (Option.bind_some _ _).symm.trans H; rw [hy164]; with_reducible exact H2_) | (have H2_ := (Option.bind_some _ _).symm.trans H; with_reducible exact H2_) | with_reducible exact H | (rw [hy164]; exact H) | exact H
                            have Ny164 := Aside0.mk hy164
                            clear hy164
                            replace H := Option.bind_eq_some_iff.mp H
                            obtain ⟨⟨t168, t169, t170⟩, A260, H⟩ := H
                            replace H : (if t170 = 0 then (if t168.toList = a1.toList then (some ((wrap64 (t162 + t169)) == (t158.length : Int))) else (some false)) else (some false)) = some r := H
                            have A26 := Aside0.mk A260
                            clear A260
                            by_cases c27 : t170 = 0
                            · rw [if_pos c27] at H
                              have c27b0 : (t170 == 0) = true := beq_iff_eq.mpr c27
                              have c27b1 : (t170 != 0) = false := bne_eq_false_iff_eq.mpr c27
                              clear c27
                              by_cases c28 : t168.toList = a1.toList
                              · rw [if_pos c28] at H
                                have c28b0 : (t168.toList == a1.toList) = true := beq_iff_eq.mpr c28
                                have c28b1 : (t168.toList != a1.toList) = false := bne_eq_false_iff_eq.mpr c28
                                clear c28
                                obtain rfl := Option.some.inj H
                                go_wp2_with (first | ((with_reducible refine gate_callee (f := 37) rfl ?_); refine goesL_ (some 61) rfl rfl Try.func37 (by kernel_rfl) rfl #[.slice none 0 0, .string a0] rfl (by (try simp only [List.map_toArray, List.map_cons, List.map_nil]); first | done | rfl | (simp only [List.length_drop, List.length_take]; rfl)) ?_; (refine (octet_PutText.calls kj12 _ _ ([] : List Int) a0 t155 _ ?side1 ?side2 A17.out).mono ?_); (case side1 => exact Kd.C_nil _ _); (case side2 => exact Nat.le_refl _); rintro e w29 ⟨v156, rfl, ho0, hb⟩; refine ⟨_, rfl, ?_⟩; have n0_ := Aside0.mk (Kd.R_lower ho0 (below_size (by repeat (first | (with_reducible first | exact HB.out | apply below_alloc | apply pw_below_drewN | apply below_drew1) | exact HB.out)))); have n1_ := Aside0.mk (below_step (by repeat (first | (with_reducible first | exact HB.out | apply below_alloc | apply pw_below_drewN | apply below_drew1) | exact HB.out)) hb); clear HB; have HO157 := n0_; have HB := n1_; clear n0_ n1_; (try clear hb); (try clear hb2); (try clear hk); (try clear hi); (try clear ho0); obtain ⟨Ao30, co30, eo30⟩ := Kd.R_slice HO157.out; subst eo30) | ((with_reducible refine gate_callee (f := 37) rfl ?_); refine goesL_ (some 63) rfl rfl Try.func37 (by kernel_rfl) rfl #[.slice Ao30 t155.length co30, .string a1] rfl (by (try simp only [List.map_toArray, List.map_cons, List.map_nil]); first | done | rfl | (simp only [List.length_drop, List.length_take]; rfl)) ?_; (with_reducible refine (octet_PutText.calls kj12 _ _ t155 a1 t158 _ ?side1 ?side2 A18.out).mono ?_); (case side1 => repeat (first | exact (Kd.R_reads' HO157.out).2.2 | (with_reducible refine Kd.C_alloc ?_ _) | (with_reducible refine Kd.C_drewN ?_ _) | (with_reducible refine Kd.C_drew ?_))); (case side2 => exact (Kd.R_reads' HO157.out).2.1); rintro e w31 ⟨v159, rfl, ho0, hb⟩; refine ⟨_, rfl, ?_⟩; have n0_ := Aside0.mk (Kd.R_elder' (by (with_reducible repeat (first | apply Kd.R_alloc | apply Kd.R_drewN | apply Kd.R_drew)); exact HO157.out) (Kd.R_base ho0) hb); have n1_ := Aside0.mk (Kd.R_lower (Kd.R_new' ho0 (Kd.R_lt (by (with_reducible repeat (first | apply Kd.R_alloc | apply Kd.R_drewN | apply Kd.R_drew)); exact HO157.out))) (below_size (by repeat (first | (with_reducible first | exact HB.out | apply below_alloc | apply pw_below_drewN | apply below_drew1) | exact HB.out)))); have n2_ := Aside0.mk (below_step (by repeat (first | (with_reducible first | exact HB.out | apply below_alloc | apply pw_below_drewN | apply below_drew1) | exact HB.out)) hb); clear HO157; clear HB; have HO157 := n0_; have HO160 := n1_; have HB := n2_; clear n0_ n1_ n2_; (try clear hb); (try clear hb2); (try clear hk); (try clear hi); (try clear ho0); obtain ⟨Ao32, co32, eo32⟩ := Kd.R_slice HO160.out; subst eo32) | ((with_reducible refine gate_callee (f := 35) rfl ?_); refine goesL_ (some 66) rfl rfl Try.func35 (by kernel_rfl) rfl #[.slice Ao32 t158.length co32] rfl (by (try simp only [List.map_toArray, List.map_cons, List.map_nil]); first | done | rfl | (simp only [List.length_drop, List.length_take]; rfl)) ?_; (with_reducible refine (octet_TakeText.calls kj12 _ _ t158 t161 t162 t163 _ ?side1 ?side2 A19.out).mono ?_); (case side1 => repeat (first | exact (Kd.R_reads' HO160.out).2.2 | (with_reducible refine Kd.C_alloc ?_ _) | (with_reducible refine Kd.C_drewN ?_ _) | (with_reducible refine Kd.C_drew ?_))); (case side2 => exact (Kd.R_reads' HO160.out).2.1); rintro e w' ⟨rfl, ⟨nd, rfl⟩⟩; refine ⟨_, rfl, ?_⟩; have q33 : (t162 : Int) ≤ ((t158.length : Int) : Int) := of_decide_eq_true (by first | (with_reducible assumption) | assumption); obtain ⟨i033, hi033, _, hsz33, _⟩ := info_parts info5; have hroom33 : t158.length ≤ co32 := (Kd.R_reads' HO160.out).2.1; have hC33 : Kd.C (Kd.int .u8) _ Ao32 t158.length t158 := (Kd.R_reads' HO160.out).2.2; have q033 : (0 : Int) ≤ (t162 : Int) := of_decide_eq_true (by first | (with_reducible assumption) | assumption); have hcut33 := cut_from (P := Try.prog) 24 5 .i64 Try.underlying24 hi033 1 hsz33 Ao32 t158.length co32 t162 q033 q33; have hr33 := Kd.C_drop (m := (t162 : Int).toNat) (c := co32) hC33 (by omega) hroom33; obtain ⟨A33, hA33⟩ : ∃ A1, A1 = (if co32 = (t162 : Int).toNat then Ao32 else (Ao32 : Option Addr).map (·.add ((t162 : Int).toNat * 1))) := ⟨_, rfl⟩; obtain ⟨c33, hc33⟩ : ∃ c1, c1 = co32 - (t162 : Int).toNat := ⟨_, rfl⟩; have hy33 : y164.length = t158.length - (t162 : Int).toNat := (by rw [Ny164.out, List.length_drop] <;> omega); rw [show (t158).drop (t162 : Int).toNat = y164 from Ny164.out.symm] at hr33; replace hr33 : Kd.C (Kd.int .u8) _ A33 y164.length y164 := (by rw [hA33]; exact hr33); rw [← hy33, ← hA33, ← hc33] at hcut33; have HR167 := Aside0.mk hr33; have HC167 := Aside0.mk (show y164.length ≤ c33 from by rw [hy33, hc33]; exact Nat.sub_le_sub_right hroom33 _); clear hr33 hC33 hroom33 hi033 hsz33 hc33; have KY33 := Aside0.mk hy33; have KA33 := Aside0.mk hA33; clear hy33 hA33; have KL33 := Aside0.mk (show (t162 : Int).toNat ≤ t158.length from by omega); replace q33 := eq_true q33) | ((with_reducible refine gate_callee (f := 35) rfl ?_); refine goesL_ (some 94) rfl rfl Try.func35 (by kernel_rfl) rfl #[.slice A33 y164.length c33] rfl (by (try simp only [List.map_toArray, List.map_cons, List.map_nil]); first | done | rfl | (simp only [List.length_drop, List.length_take]; rfl)) ?_; (with_reducible refine (octet_TakeText.calls kj12 _ _ y164 t168 t169 t170 _ ?side1 ?side2 A26.out).mono ?_); (case side1 => repeat (first | exact (by repeat (first | (with_reducible exact HR167.out) | (with_reducible refine Kd.C_alloc ?_ _) | (with_reducible refine Kd.C_drewN ?_ _) | (with_reducible refine Kd.C_drew ?_) | exact HR167.out)) | (with_reducible refine Kd.C_alloc ?_ _) | (with_reducible refine Kd.C_drewN ?_ _) | (with_reducible refine Kd.C_drew ?_))); (case side2 => exact HC167.out); rintro e w' ⟨rfl, ⟨nd, rfl⟩⟩; refine ⟨_, rfl, ?_⟩))
                                go_ret
                                exact ⟨by first | rfl | (simp [errW_none, errW_some] <;> rfl) | (simp [*, errW_none, errW_some] <;> rfl), by repeat (first | (with_reducible first | exact HB.out | apply below_alloc | apply pw_below_drewN | apply below_drew1) | exact HB.out)⟩
                              · rw [if_neg c28] at H
                                have c28b0 : (t168.toList == a1.toList) = false := beq_eq_false_iff_ne.mpr c28
                                have c28b1 : (t168.toList != a1.toList) = true := bne_iff_ne.mpr c28
                                exact absurd (Option.some.inj H) (by rw [hrt]; decide)
                            · rw [if_neg c27] at H
                              have c27b0 : (t170 == 0) = false := beq_eq_false_iff_ne.mpr c27
                              have c27b1 : (t170 != 0) = true := bne_iff_ne.mpr c27
                              exact absurd (Option.some.inj H) (by rw [hrt]; decide)
                          · rw [if_neg c25] at H
                            exact absurd H (by simp)
                        · rw [if_neg c24] at H
                          exact absurd H (by simp)
                    · rw [if_neg c22] at H
                      have c22b0 : (t162 == (wrap64 (4 + (a0.size : Int)))) = false := beq_eq_false_iff_ne.mpr c22
                      have c22b1 : (t162 != (wrap64 (4 + (a0.size : Int)))) = true := bne_iff_ne.mpr c22
                      exact absurd (Option.some.inj H) (by rw [hrt]; decide)
                  · rw [if_neg c21] at H
                    have c21b0 : (t161.toList == a0.toList) = false := beq_eq_false_iff_ne.mpr c21
                    have c21b1 : (t161.toList != a0.toList) = true := bne_iff_ne.mpr c21
                    exact absurd (Option.some.inj H) (by rw [hrt]; decide)
                · rw [if_neg c20] at H
                  have c20b0 : (t163 == 0) = false := beq_eq_false_iff_ne.mpr c20
                  have c20b1 : (t163 != 0) = true := bne_iff_ne.mpr c20
                  exact absurd (Option.some.inj H) (by rw [hrt]; decide)
  · replace c5 := Bool.eq_false_iff.mpr c5
    subst c5
    have H1 : (some false) = some r := by rw [if_neg (show ¬ (false = true) by decide)] at H; exact H
    clear H
    have H := H1
    clear H1
    exact absurd (Option.some.inj H) (by rw [hrt]; decide)

/-- THE ONE PURE STATEMENT of assayerlaw1_OctetTexts: yours. -/
def assayerlaw1_OctetTexts.Pure : Prop := ∀ (a0 : ByteArray) (a1 : ByteArray) (l2 : List Int), a0.size ≤ 140737488351232 → a1.size ≤ 140737488351232 → l2.length ≤ maxLen → l2.length * 1 ≤ 140737488351232 → (∀ x ∈ l2, (Lit.int .u8 x).wf = true) → ∃ k, assayerlaw1_OctetTexts.f k a0 a1 l2 = some true
theorem assayerlaw1_OctetTexts.walk (P : assayerlaw1_OctetTexts.Pure) (a0 : ByteArray) (a1 : ByteArray) (a2 : Option Addr) (len2 cap2 : Nat) (z2 : List Int) (w : World) (w0 : a0.size ≤ 140737488351232) (w1 : a1.size ≤ 140737488351232) (w2 : (a2 = none ∧ len2 = 0 ∧ cap2 = 0 ∧ z2 = []) ∨ ∃ x, a2 = some x ∧ len2 ≤ cap2 ∧ cap2 ≤ maxLen ∧ z2.length = cap2 ∧ (∀ i, i < z2.length → w.cell? (x.add i) = some (.int .u8 (z2.getD i 0))) ∧ ∀ n ∈ z2, (Lit.int .u8 n).wf = true) (y2 : len2 * 1 ≤ 140737488351232) :
    Calls Try.prog 10 #[.string a0, .string a1, .slice a2 len2 cap2] w fun e w' => e = .returned (.bool true) ∧ Below w.heap.size w w' := by
  obtain ⟨l2, rfl, hr2, hm2, hw2, hc2⟩ := ReadsInt.ofRowC w2
  obtain ⟨k, h⟩ := P a0 a1 l2 w0 w1 hm2 y2 hw2
  refine (assayerlaw1_OctetTexts.calls k a0 a1 _ _ l2 true w (Kd.C_of_reads (d := (0 : Int)) (h1 := fun _ => rfl) hr2) hc2 h rfl).mono ?_
  rintro e w' ⟨rfl, hd⟩
  exact ⟨rfl, hd⟩

/-! ### assayerref1_Sum: function 42 -/
def assayerref1_Sum.l0 : Nat → List Int → Int → Int → Option (Int)
  | 0, _, _, _ => none
  | k + 1, x0, x3, x4 => if x4 < (wrap64 (8 * (x0.length : Int))) then (if 0 ≤ (wrap64 (Int.tdiv x4 8)) then (if (wrap64 (Int.tdiv x4 8)) < (x0.length : Int) then (if 0 ≤ (Int.tmod x4 8) then (if (Go.bits .and .u32 x3 1) = (Go.bits .and .u32 (shr .u32 ((rd x0 (wrap64 (Int.tdiv x4 8))) % 4294967296) (Int.tmod x4 8)) 1) then (assayerref1_Sum.l0 k x0 (x3 / 2) (wrap64 (x4 + 1))) else (assayerref1_Sum.l0 k x0 (Go.bits .xor .u32 (x3 / 2) 2197175160) (wrap64 (x4 + 1)))) else (none)) else (none)) else (none)) else (some (Go.bits .xor .u32 4294967295 x3))
def assayerref1_Sum.f (k : Nat) (l0 : List Int) : Option (Int) := assayerref1_Sum.l0 k l0 4294967295 0
theorem assayerref1_Sum.mono_l : ∀ k, (∀ y0 y1 y2, LeO (assayerref1_Sum.l0 k y0 y1 y2) (assayerref1_Sum.l0 (k + 1) y0 y1 y2))
  | 0 => fun _ _ _ r h => by simp [assayerref1_Sum.l0] at h
  | k + 1 => by
    have ih0 := assayerref1_Sum.mono_l k
    · intro y0 y1 y2
      unfold assayerref1_Sum.l0
      repeat' first
      | (with_reducible exact ih0 _ _ _)
      | (with_reducible exact LeO.refl _)
      | (with_reducible exact LeO.none _)
      | (with_reducible refine LeO.ite ?_ ?_)
      | (with_reducible refine LeO.bind ?_ (fun _ => ?_))
      | exact ih0 _ _ _
      | exact LeO.none _
      | refine LeO.ite ?_ ?_
      | refine LeO.bind ?_ (fun _ => ?_)
theorem assayerref1_Sum.mono : ∀ a0 k, LeO (assayerref1_Sum.f k a0) (assayerref1_Sum.f (k + 1) a0) := by
  intro a0 k
  have ih0 := assayerref1_Sum.mono_l k
  unfold assayerref1_Sum.f
  repeat' first
      | (with_reducible exact ih0 _ _ _)
      | (with_reducible exact LeO.refl _)
      | (with_reducible exact LeO.none _)
      | (with_reducible refine LeO.ite ?_ ?_)
      | (with_reducible refine LeO.bind ?_ (fun _ => ?_))
      | exact ih0 _ _ _
      | exact LeO.none _
      | refine LeO.ite ?_ ?_
      | refine LeO.bind ?_ (fun _ => ?_)
set_option maxHeartbeats 8000000 in
set_option maxRecDepth 100000 in
theorem assayerref1_Sum.calls (k : Nat) (A0 : Option Addr) (c0 : Nat) (l0 : List Int) (r : Int) (w : World) (hr0 : Kd.C (Kd.int .u8) w A0 l0.length l0) (hc0 : l0.length ≤ c0) (h : assayerref1_Sum.f k l0 = some r) :
    Calls Try.prog 42 #[.slice A0 l0.length c0] w fun e w' => e = .returned (.int .u32 r) ∧ Drawn0 w w' := by
  have HR0 := Aside0.mk hr0
  have HC0 := Aside0.mk hc0
  clear hr0 hc0
  have H : (assayerref1_Sum.l0 k l0 4294967295 0) = some r := h
  clear h
  have H' := Aside0.mk H
  clear H
  go_enter Try.func42, Try.ntmps42
  go_wp2
  go_loopg [3, 4] k (fun kq v3 v4 w' => ∃ (x3_1 : Int) (x4_1 : Int), v3 = .int .u32 x3_1 ∧ v4 = .int .i64 x4_1 ∧ Aside0 (assayerref1_Sum.l0 kq l0 x3_1 x4_1 = some r) ∧ Aside0 (kq ≤ k) ∧ Drawn0 w w')
  case atStart => exact ⟨(4294967295), (0), (by first | rfl | (simp; done) | (simp [*]; done)), (by first | rfl | (simp; done) | (simp [*]; done)), H', ⟨Nat.le_refl _⟩, by repeat (first | exact Drawn0.refl _ | apply Drawn0.step)⟩
  case round =>
    clear H'
    obtain ⟨x3_1, x4_1, rfl, rfl, HA, HK1, ⟨m1, rfl⟩⟩ := hrel
    cases gk with
    | zero => exact absurd HA.out (by simp [assayerref1_Sum.l0])
    | succ k1 =>
      have H := HA.out
      clear HA
      simp only [assayerref1_Sum.l0] at H
      by_cases c2 : x4_1 < (wrap64 (8 * (l0.length : Int)))
      · rw [if_pos c2] at H
        have c2b0 : decide (x4_1 < (wrap64 (8 * (l0.length : Int)))) = true := decide_eq_true c2
        clear c2
        obtain ⟨ji3, hji3⟩ : ∃ j_ : Int, (wrap64 (Int.tdiv x4_1 8)) = j_ := ⟨_, rfl⟩
        replace H : (if 0 ≤ (ji3) then (if (ji3) < (l0.length : Int) then (if 0 ≤ (Int.tmod x4_1 8) then (if (Go.bits .and .u32 x3_1 1) = (Go.bits .and .u32 (shr .u32 ((rd l0 (ji3)) % 4294967296) (Int.tmod x4_1 8)) 1) then (assayerref1_Sum.l0 k1 l0 (x3_1 / 2) (wrap64 (x4_1 + 1))) else (assayerref1_Sum.l0 k1 l0 (Go.bits .xor .u32 (x3_1 / 2) 2197175160) (wrap64 (x4_1 + 1)))) else (none)) else (none)) else (none)) = some r := by first | (rw [hji3] at H; exact H) | (simp only [hji3] at H ⊢; exact H)
        have hji3w : (IntKind.i64.wrap (Int.tdiv x4_1 8)) = ji3 := (i64_w _).trans hji3
        by_cases c4 : 0 ≤ (ji3)
        · rw [if_pos c4] at H
          have c4b0 : decide (0 ≤ (ji3)) = true := decide_eq_true c4
          clear c4
          by_cases c5 : (ji3) < (l0.length : Int)
          · rw [if_pos c5] at H
            have c5b0 : decide ((ji3) < (l0.length : Int)) = true := decide_eq_true c5
            clear c5
            obtain ⟨ji6, hji6⟩ : ∃ j_ : Int, (Int.tmod x4_1 8) = j_ := ⟨_, rfl⟩
            replace H : (if 0 ≤ (ji6) then (if (Go.bits .and .u32 x3_1 1) = (Go.bits .and .u32 (shr .u32 ((rd l0 (ji3)) % 4294967296) (ji6)) 1) then (assayerref1_Sum.l0 k1 l0 (x3_1 / 2) (wrap64 (x4_1 + 1))) else (assayerref1_Sum.l0 k1 l0 (Go.bits .xor .u32 (x3_1 / 2) 2197175160) (wrap64 (x4_1 + 1)))) else (none)) = some r := by first | (rw [hji6] at H; exact H) | (simp only [hji6] at H ⊢; exact H)
            by_cases c7 : 0 ≤ (ji6)
            · rw [if_pos c7] at H
              have c7b0 := eq_true c7
              have c7b1 : decide (0 ≤ (ji6)) = true := decide_eq_true c7
              clear c7
              obtain ⟨ji8, hji8⟩ : ∃ j_ : Int, (shr .u32 ((rd l0 (ji3)) % 4294967296) (ji6)) = j_ := ⟨_, rfl⟩
              replace H : (if (Go.bits .and .u32 x3_1 1) = (Go.bits .and .u32 (ji8) 1) then (assayerref1_Sum.l0 k1 l0 (x3_1 / 2) (wrap64 (x4_1 + 1))) else (assayerref1_Sum.l0 k1 l0 (Go.bits .xor .u32 (x3_1 / 2) 2197175160) (wrap64 (x4_1 + 1)))) = some r := by first | (rw [hji8] at H; exact H) | (simp only [hji8] at H ⊢; exact H)
              have hji8_ : (((rd l0 (ji3)) % 4294967296) / 2 ^ min (ji6).toNat 32) = ji8 := hji8
              have hji8z : (ji6) ≤ 32 → (((rd l0 (ji3)) % 4294967296) / 2 ^ (ji6).toNat) = ji8 := shr_small hji8
              by_cases c9 : (Go.bits .and .u32 x3_1 1) = (Go.bits .and .u32 (ji8) 1)
              · rw [if_pos c9] at H
                have c9b0 : ((Go.bits .and .u32 x3_1 1) == (Go.bits .and .u32 (ji8) 1)) = true := beq_iff_eq.mpr c9
                have c9b1 : ((Go.bits .and .u32 x3_1 1) != (Go.bits .and .u32 (ji8) 1)) = false := bne_eq_false_iff_eq.mpr c9
                clear c9
                have H' := Aside0.mk H
                clear H
                have p171 : 0 ≤ ((ji3) : Int) := of_decide_eq_true (by first | (with_reducible assumption) | assumption)
                have q171 : (ji3) < (l0.length : Int) := of_decide_eq_true (by first | (with_reducible assumption) | assumption)
                obtain ⟨ad171, e171, hx171_0⟩ := Kd.at_int HR0.out (ji3) p171 q171
                cases e171
                replace p171 := eq_true p171
                replace q171 := eq_true q171
                go_wp2
                go_roundg k1
                case measure => have := HK1.out; omega
                case rel => exact ⟨(x3_1 / 2), (wrap64 (x4_1 + 1)), (by first | rfl | (simp; done) | (simp [*]; done)), (by first | rfl | (simp; done) | (simp [*]; done)), H', ⟨by have := HK1.out; omega⟩, by repeat (first | exact Drawn0.refl _ | apply Drawn0.step)⟩
              · rw [if_neg c9] at H
                have c9b0 : ((Go.bits .and .u32 x3_1 1) == (Go.bits .and .u32 (ji8) 1)) = false := beq_eq_false_iff_ne.mpr c9
                have c9b1 : ((Go.bits .and .u32 x3_1 1) != (Go.bits .and .u32 (ji8) 1)) = true := bne_iff_ne.mpr c9
                have H' := Aside0.mk H
                clear H
                have p171 : 0 ≤ ((ji3) : Int) := of_decide_eq_true (by first | (with_reducible assumption) | assumption)
                have q171 : (ji3) < (l0.length : Int) := of_decide_eq_true (by first | (with_reducible assumption) | assumption)
                obtain ⟨ad171, e171, hx171_0⟩ := Kd.at_int HR0.out (ji3) p171 q171
                cases e171
                replace p171 := eq_true p171
                replace q171 := eq_true q171
                go_wp2
                go_roundg k1
                case measure => have := HK1.out; omega
                case rel => exact ⟨(Go.bits .xor .u32 (x3_1 / 2) 2197175160), (wrap64 (x4_1 + 1)), (by first | rfl | (simp; done) | (simp [*]; done)), (by first | rfl | (simp; done) | (simp [*]; done)), H', ⟨by have := HK1.out; omega⟩, by repeat (first | exact Drawn0.refl _ | apply Drawn0.step)⟩
            · rw [if_neg c7] at H
              exact absurd H (by simp)
          · rw [if_neg c5] at H
            exact absurd H (by simp)
        · rw [if_neg c4] at H
          exact absurd H (by simp)
      · rw [if_neg c2] at H
        have c2b0 : decide (x4_1 < (wrap64 (8 * (l0.length : Int)))) = false := decide_eq_false c2
        clear c2
        obtain rfl := Option.some.inj H
        go_wp2
        go_ret
        exact ⟨by first | rfl | (simp; done) | (simp [*]; done), by repeat (first | exact Drawn0.refl _ | apply Drawn0.step)⟩

end Go.Proofs.Ythgimjbmjeidpaa.POctet
