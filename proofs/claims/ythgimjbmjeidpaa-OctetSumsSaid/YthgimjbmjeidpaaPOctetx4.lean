-- Written by xprint.py, a program of this session, out of the translation, by way of the kit's printer. Lean checks it.
import Derived.Test.YthgimjbmjeidpaaPOctetx0
import Derived.Test.YthgimjbmjeidpaaPOctetx1
import Derived.Test.YthgimjbmjeidpaaPOctetx3
namespace Go.Proofs.Ythgimjbmjeidpaa.POctet
open Go.RowKit Go.Proofs.YthgimjbmjeidpaaW.PrintWords Go.Proofs.YthgimjbmjeidpaaW.PrintLast Go.Proofs.YthgimjbmjeidpaaW.PrintMore
attribute [local go_sem] max2_int min2_int max_two min_two max_three min_three max_four min_four   -- for this text's walks alone
set_option linter.unusedVariables false
set_option linter.unusedSimpArgs false

/-! ### assayerlaw1_OctetSigns: function 9 -/
def assayerlaw1_OctetSigns.j0 : Nat → Int → Int → Int → List Int → Int → Bool → Option (Bool)
  | 0, _, _, _, _, _, _ => none
  | k + 1, x0, x1, x2, x7, x8, x37 => if x37 = true then (some false) else (if 8 ≤ (x7.length : Int) then ((octet_Take.f k (x7.drop 8) 2).bind fun bt159 => (if 10 ≤ (x7.length : Int) then ((some (x7.drop (10 : Int).toNat : List Int)).bind fun y161 => (if y161.length < 140737488355328 then ((octet_Take.f k (y161 ++ [x2]) 4).bind fun bt167 => (if bt159.2 = 0 then (if bt167.2 = 0 then (if (wrap64 (x8)) = x0 then (if (IntKind.i16.wrap (bt159.1)) = x1 then (some ((wrap32 ((bt167.1) % 4294967296)) == (wrap32 (x1)))) else (some false)) else (some false)) else (some false)) else (some false))) else (none))) else (none))) else (none))
def assayerlaw1_OctetSigns.f (k : Nat) (a0 : Int) (a1 : Int) (a2 : Int) : Option (Bool) := (assayerlaw1_begun.f).bind fun t143 => (if t143 = true then ((octet_Put.f k ([] : List Int) (IntKind.u64.wrap (a0)) 8).bind fun t144 => ((octet_Put.f k t144 (IntKind.u64.wrap (a1)) 2).bind fun t147 => ((octet_Put.f k t147 (IntKind.u64.wrap (wrap64 (a1))) 4).bind fun t150 => ((octet_Take.f k t150 8).bind fun bt153 => (if bt153.2 = 0 then (assayerlaw1_OctetSigns.j0 k a0 a1 a2 t150 bt153.1 ((t150.length : Int) != 14)) else (assayerlaw1_OctetSigns.j0 k a0 a1 a2 t150 bt153.1 true)))))) else (some false))
theorem assayerlaw1_OctetSigns.mono_l : ∀ k, (∀ y0 y1 y2 y3 y4 y5, LeO (assayerlaw1_OctetSigns.j0 k y0 y1 y2 y3 y4 y5) (assayerlaw1_OctetSigns.j0 (k + 1) y0 y1 y2 y3 y4 y5))
  | 0 => fun _ _ _ _ _ _ r h => by simp [assayerlaw1_OctetSigns.j0] at h
  | k + 1 => by
    have ih0 := assayerlaw1_OctetSigns.mono_l k
    · intro y0 y1 y2 y3 y4 y5
      unfold assayerlaw1_OctetSigns.j0
      repeat' first
      | (with_reducible exact ih0 _ _ _ _ _ _)
      | (with_reducible exact octet_Put.mono _ _ _ _)
      | (with_reducible exact octet_Take.mono _ _ _)
      | (with_reducible exact LeO.refl _)
      | (with_reducible exact LeO.none _)
      | (with_reducible refine LeO.ite ?_ ?_)
      | (with_reducible refine LeO.bind ?_ (fun _ => ?_))
      | exact ih0 _ _ _ _ _ _
      | exact octet_Put.mono _ _ _ _
      | exact octet_Take.mono _ _ _
      | exact LeO.none _
      | refine LeO.ite ?_ ?_
      | refine LeO.bind ?_ (fun _ => ?_)
theorem assayerlaw1_OctetSigns.mono : ∀ a0 a1 a2 k, LeO (assayerlaw1_OctetSigns.f k a0 a1 a2) (assayerlaw1_OctetSigns.f (k + 1) a0 a1 a2) := by
  intro a0 a1 a2 k
  have ih0 := assayerlaw1_OctetSigns.mono_l k
  unfold assayerlaw1_OctetSigns.f
  repeat' first
      | (with_reducible exact ih0 _ _ _ _ _ _)
      | (with_reducible exact octet_Put.mono _ _ _ _)
      | (with_reducible exact octet_Take.mono _ _ _)
      | (with_reducible exact LeO.refl _)
      | (with_reducible exact LeO.none _)
      | (with_reducible refine LeO.ite ?_ ?_)
      | (with_reducible refine LeO.bind ?_ (fun _ => ?_))
      | exact ih0 _ _ _ _ _ _
      | exact octet_Put.mono _ _ _ _
      | exact octet_Take.mono _ _ _
      | exact LeO.none _
      | refine LeO.ite ?_ ?_
      | refine LeO.bind ?_ (fun _ => ?_)
set_option maxHeartbeats 8000000 in
set_option maxRecDepth 100000 in
theorem assayerlaw1_OctetSigns.calls (k : Nat) (a0 : Int) (a1 : Int) (a2 : Int) (r : Bool) (w : World) (h : assayerlaw1_OctetSigns.f k a0 a1 a2 = some r) :
    Calls Try.prog 9 #[.int .i64 a0, .int .i16 a1, .int .u8 a2] w fun e w' => e = .returned (.bool r) ∧ Below w.heap.size w w' := by
  have HB := Aside0.mk (Below.refl w.heap.size w)
  have H : ((assayerlaw1_begun.f).bind fun t143 => (if t143 = true then ((octet_Put.f k ([] : List Int) (IntKind.u64.wrap (a0)) 8).bind fun t144 => ((octet_Put.f k t144 (IntKind.u64.wrap (a1)) 2).bind fun t147 => ((octet_Put.f k t147 (IntKind.u64.wrap (wrap64 (a1))) 4).bind fun t150 => ((octet_Take.f k t150 8).bind fun bt153 => (if bt153.2 = 0 then (assayerlaw1_OctetSigns.j0 k a0 a1 a2 t150 bt153.1 ((t150.length : Int) != 14)) else (assayerlaw1_OctetSigns.j0 k a0 a1 a2 t150 bt153.1 true)))))) else (some false))) = some r := h
  clear h
  replace H := Option.bind_eq_some_iff.mp H
  obtain ⟨t143, A40, H⟩ := H
  replace H : (if t143 = true then ((octet_Put.f k ([] : List Int) (IntKind.u64.wrap (a0)) 8).bind fun t144 => ((octet_Put.f k t144 (IntKind.u64.wrap (a1)) 2).bind fun t147 => ((octet_Put.f k t147 (IntKind.u64.wrap (wrap64 (a1))) 4).bind fun t150 => ((octet_Take.f k t150 8).bind fun bt153 => (if bt153.2 = 0 then (assayerlaw1_OctetSigns.j0 k a0 a1 a2 t150 bt153.1 ((t150.length : Int) != 14)) else (assayerlaw1_OctetSigns.j0 k a0 a1 a2 t150 bt153.1 true)))))) else (some false)) = some r := H
  have A4 := Aside0.mk A40
  clear A40
  by_cases c5 : t143 = true
  · subst c5
    have H1 : ((octet_Put.f k ([] : List Int) (IntKind.u64.wrap (a0)) 8).bind fun t144 => ((octet_Put.f k t144 (IntKind.u64.wrap (a1)) 2).bind fun t147 => ((octet_Put.f k t147 (IntKind.u64.wrap (wrap64 (a1))) 4).bind fun t150 => ((octet_Take.f k t150 8).bind fun bt153 => (if bt153.2 = 0 then (assayerlaw1_OctetSigns.j0 k a0 a1 a2 t150 bt153.1 ((t150.length : Int) != 14)) else (assayerlaw1_OctetSigns.j0 k a0 a1 a2 t150 bt153.1 true)))))) = some r := by rw [if_pos rfl] at H; exact H
    clear H
    have H := H1
    clear H1
    replace H := Option.bind_eq_some_iff.mp H
    obtain ⟨t144, A60, H⟩ := H
    replace H : ((octet_Put.f k t144 (IntKind.u64.wrap (a1)) 2).bind fun t147 => ((octet_Put.f k t147 (IntKind.u64.wrap (wrap64 (a1))) 4).bind fun t150 => ((octet_Take.f k t150 8).bind fun bt153 => (if bt153.2 = 0 then (assayerlaw1_OctetSigns.j0 k a0 a1 a2 t150 bt153.1 ((t150.length : Int) != 14)) else (assayerlaw1_OctetSigns.j0 k a0 a1 a2 t150 bt153.1 true))))) = some r := H
    have A6 := Aside0.mk A60
    clear A60
    replace H := Option.bind_eq_some_iff.mp H
    obtain ⟨t147, A70, H⟩ := H
    replace H : ((octet_Put.f k t147 (IntKind.u64.wrap (wrap64 (a1))) 4).bind fun t150 => ((octet_Take.f k t150 8).bind fun bt153 => (if bt153.2 = 0 then (assayerlaw1_OctetSigns.j0 k a0 a1 a2 t150 bt153.1 ((t150.length : Int) != 14)) else (assayerlaw1_OctetSigns.j0 k a0 a1 a2 t150 bt153.1 true)))) = some r := H
    have A7 := Aside0.mk A70
    clear A70
    replace H := Option.bind_eq_some_iff.mp H
    obtain ⟨t150, A80, H⟩ := H
    replace H : ((octet_Take.f k t150 8).bind fun bt153 => (if bt153.2 = 0 then (assayerlaw1_OctetSigns.j0 k a0 a1 a2 t150 bt153.1 ((t150.length : Int) != 14)) else (assayerlaw1_OctetSigns.j0 k a0 a1 a2 t150 bt153.1 true))) = some r := H
    have A8 := Aside0.mk A80
    clear A80
    replace H := Option.bind_eq_some_iff.mp H
    obtain ⟨⟨t153, t154⟩, A90, H⟩ := H
    replace H : (if t154 = 0 then (assayerlaw1_OctetSigns.j0 k a0 a1 a2 t150 t153 ((t150.length : Int) != 14)) else (assayerlaw1_OctetSigns.j0 k a0 a1 a2 t150 t153 true)) = some r := H
    have A9 := Aside0.mk A90
    clear A90
    have HC10 := Aside0.mk H
    clear H
    go_enter Try.func9, Try.ntmps9
    go_upto_region 5 with (first | ((with_reducible refine gate_callee (f := 30) rfl ?_); refine goesL_ (some 14) rfl rfl Try.func30 (by kernel_rfl) rfl #[] rfl (by (try simp only [List.map_toArray, List.map_cons, List.map_nil]); first | done | rfl | (simp only [List.length_drop, List.length_take]; rfl)) ?_; (with_reducible refine (assayerlaw1_begun.calls  true _ A4.out).mono ?_); rintro e w11 ⟨rfl, hb⟩; refine ⟨_, rfl, ?_⟩; have n0_ := Aside0.mk (below_step (by repeat (first | (with_reducible first | exact HB.out | apply below_alloc | apply pw_below_drewN | apply below_drew1) | exact HB.out)) hb); clear HB; have HB := n0_; clear n0_; (try clear hb); (try clear hb2); (try clear hk); (try clear hi)) | ((with_reducible refine gate_callee (f := 33) rfl ?_); refine goesL_ (some 18) rfl rfl Try.func33 (by kernel_rfl) rfl #[.slice none 0 0, .int .u64 (IntKind.u64.wrap (a0)), .int .i64 8] rfl (by (try simp only [List.map_toArray, List.map_cons, List.map_nil]); first | done | rfl | (simp only [List.length_drop, List.length_take]; rfl)) ?_; (refine (octet_Put.calls k _ _ ([] : List Int) (IntKind.u64.wrap (a0)) 8 t144 _ ?side1 ?side2 A6.out).mono ?_); (case side1 => exact Kd.C_nil _ _); (case side2 => exact Nat.le_refl _); rintro e w12 ⟨v145, rfl, ho0, hb⟩; refine ⟨_, rfl, ?_⟩; have n0_ := Aside0.mk (Kd.R_lower ho0 (below_size (by repeat (first | (with_reducible first | exact HB.out | apply below_alloc | apply pw_below_drewN | apply below_drew1) | exact HB.out)))); have n1_ := Aside0.mk (below_step (by repeat (first | (with_reducible first | exact HB.out | apply below_alloc | apply pw_below_drewN | apply below_drew1) | exact HB.out)) hb); clear HB; have HO146 := n0_; have HB := n1_; clear n0_ n1_; (try clear hb); (try clear hb2); (try clear hk); (try clear hi); (try clear ho0); obtain ⟨Ao13, co13, eo13⟩ := Kd.R_slice HO146.out; subst eo13) | ((with_reducible refine gate_callee (f := 33) rfl ?_); refine goesL_ (some 21) rfl rfl Try.func33 (by kernel_rfl) rfl #[.slice Ao13 t144.length co13, .int .u64 (IntKind.u64.wrap (a1)), .int .i64 2] rfl (by (try simp only [List.map_toArray, List.map_cons, List.map_nil]); first | done | rfl | (simp only [List.length_drop, List.length_take]; rfl)) ?_; (with_reducible refine (octet_Put.calls k _ _ t144 (IntKind.u64.wrap (a1)) 2 t147 _ ?side1 ?side2 A7.out).mono ?_); (case side1 => repeat (first | exact (Kd.R_reads' HO146.out).2.2 | (with_reducible refine Kd.C_alloc ?_ _) | (with_reducible refine Kd.C_drewN ?_ _) | (with_reducible refine Kd.C_drew ?_))); (case side2 => exact (Kd.R_reads' HO146.out).2.1); rintro e w14 ⟨v148, rfl, ho0, hb⟩; refine ⟨_, rfl, ?_⟩; have n0_ := Aside0.mk (Kd.R_elder' (by (with_reducible repeat (first | apply Kd.R_alloc | apply Kd.R_drewN | apply Kd.R_drew)); exact HO146.out) (Kd.R_base ho0) hb); have n1_ := Aside0.mk (Kd.R_lower (Kd.R_new' ho0 (Kd.R_lt (by (with_reducible repeat (first | apply Kd.R_alloc | apply Kd.R_drewN | apply Kd.R_drew)); exact HO146.out))) (below_size (by repeat (first | (with_reducible first | exact HB.out | apply below_alloc | apply pw_below_drewN | apply below_drew1) | exact HB.out)))); have n2_ := Aside0.mk (below_step (by repeat (first | (with_reducible first | exact HB.out | apply below_alloc | apply pw_below_drewN | apply below_drew1) | exact HB.out)) hb); clear HO146; clear HB; have HO146 := n0_; have HO149 := n1_; have HB := n2_; clear n0_ n1_ n2_; (try clear hb); (try clear hb2); (try clear hk); (try clear hi); (try clear ho0); obtain ⟨Ao15, co15, eo15⟩ := Kd.R_slice HO149.out; subst eo15) | ((with_reducible refine gate_callee (f := 33) rfl ?_); refine goesL_ (some 25) rfl rfl Try.func33 (by kernel_rfl) rfl #[.slice Ao15 t147.length co15, .int .u64 (IntKind.u64.wrap (wrap64 (a1))), .int .i64 4] rfl (by (try simp only [List.map_toArray, List.map_cons, List.map_nil]); first | done | rfl | (simp only [List.length_drop, List.length_take]; rfl)) ?_; (with_reducible refine (octet_Put.calls k _ _ t147 (IntKind.u64.wrap (wrap64 (a1))) 4 t150 _ ?side1 ?side2 A8.out).mono ?_); (case side1 => repeat (first | exact (Kd.R_reads' HO149.out).2.2 | (with_reducible refine Kd.C_alloc ?_ _) | (with_reducible refine Kd.C_drewN ?_ _) | (with_reducible refine Kd.C_drew ?_))); (case side2 => exact (Kd.R_reads' HO149.out).2.1); rintro e w16 ⟨v151, rfl, ho0, hb⟩; refine ⟨_, rfl, ?_⟩; have n0_ := Aside0.mk (Kd.R_elder' (by (with_reducible repeat (first | apply Kd.R_alloc | apply Kd.R_drewN | apply Kd.R_drew)); exact HO146.out) (Kd.R_base ho0) hb); have n1_ := Aside0.mk (Kd.R_elder' (by (with_reducible repeat (first | apply Kd.R_alloc | apply Kd.R_drewN | apply Kd.R_drew)); exact HO149.out) (Kd.R_base ho0) hb); have n2_ := Aside0.mk (Kd.R_lower (Kd.R_new' (Kd.R_new' ho0 (Kd.R_lt (by (with_reducible repeat (first | apply Kd.R_alloc | apply Kd.R_drewN | apply Kd.R_drew)); exact HO146.out))) (Kd.R_lt (by (with_reducible repeat (first | apply Kd.R_alloc | apply Kd.R_drewN | apply Kd.R_drew)); exact HO149.out))) (below_size (by repeat (first | (with_reducible first | exact HB.out | apply below_alloc | apply pw_below_drewN | apply below_drew1) | exact HB.out)))); have n3_ := Aside0.mk (below_step (by repeat (first | (with_reducible first | exact HB.out | apply below_alloc | apply pw_below_drewN | apply below_drew1) | exact HB.out)) hb); clear HO146; clear HO149; clear HB; have HO146 := n0_; have HO149 := n1_; have HO152 := n2_; have HB := n3_; clear n0_ n1_ n2_ n3_; (try clear hb); (try clear hb2); (try clear hk); (try clear hi); (try clear ho0); obtain ⟨Ao17, co17, eo17⟩ := Kd.R_slice HO152.out; subst eo17) | ((with_reducible refine gate_callee (f := 31) rfl ?_); refine goesL_ (some 28) rfl rfl Try.func31 (by kernel_rfl) rfl #[.slice Ao17 t150.length co17, .int .i64 8] rfl (by (try simp only [List.map_toArray, List.map_cons, List.map_nil]); first | done | rfl | (simp only [List.length_drop, List.length_take]; rfl)) ?_; (with_reducible refine (octet_Take.calls k _ _ t150 8 t153 t154 _ ?side1 ?side2 A9.out).mono ?_); (case side1 => repeat (first | exact (Kd.R_reads' HO152.out).2.2 | (with_reducible refine Kd.C_alloc ?_ _) | (with_reducible refine Kd.C_drewN ?_ _) | (with_reducible refine Kd.C_drew ?_))); (case side2 => exact (Kd.R_reads' HO152.out).2.1); rintro e w' ⟨rfl, ⟨nd, rfl⟩⟩; refine ⟨_, rfl, ?_⟩))
    (try simp only [Act.put, List.setIfInBounds_toArray, List.set_cons_zero, List.set_cons_succ])
    go_cut [37] (fun v37 wc => ∃ (kq : Nat) (x37_9 : Bool), v37 = .bool x37_9 ∧ Aside0 (assayerlaw1_OctetSigns.j0 kq a0 a1 a2 t150 t153 x37_9 = some r) ∧ Aside0 (kq ≤ k) ∧ Aside0 (Kd.R (Kd.int .u8) 5 wc w.heap.size (fun _ => True) (.slice Ao17 t150.length co17) t150) ∧ Aside0 (Below w.heap.size w wc))
    case first =>
      have H := HC10.out
      clear HC10
      by_cases c18 : t154 = 0
      · rw [if_pos c18] at H
        have c18b0 : (t154 == 0) = true := beq_iff_eq.mpr c18
        have c18b1 : (t154 != 0) = false := bne_eq_false_iff_eq.mpr c18
        clear c18
        (first | rw [c18b0] | (simp only [i64_w, i32_w]; rw [c18b0]) | skip)
        have H' := Aside0.mk H
        clear H
        go_wp2
        go_meet
        case rel => exact ⟨_, (((t150.length : Int) != 14)), (by first | rfl | (simp; done) | (simp [*]; done)), H', ⟨by first | omega | exact Nat.le_refl _⟩, ⟨by (with_reducible repeat (first | apply Kd.R_alloc | apply Kd.R_drewN | apply Kd.R_drew)); exact Kd.R_mono HO152.out (fun _ hk => trivial)⟩, ⟨by repeat (first | (with_reducible first | exact HB.out | apply below_alloc | apply pw_below_drewN | apply below_drew1) | exact HB.out)⟩⟩
      · rw [if_neg c18] at H
        have c18b0 : (t154 == 0) = false := beq_eq_false_iff_ne.mpr c18
        have c18b1 : (t154 != 0) = true := bne_iff_ne.mpr c18
        (first | rw [c18b0] | (simp only [i64_w, i32_w]; rw [c18b0]) | skip)
        have H' := Aside0.mk H
        clear H
        go_wp2
        go_meet
        case rel => exact ⟨_, (true), (by first | rfl | (simp; done) | (simp [*]; done)), H', ⟨by first | omega | exact Nat.le_refl _⟩, ⟨by (with_reducible repeat (first | apply Kd.R_alloc | apply Kd.R_drewN | apply Kd.R_drew)); exact Kd.R_mono HO152.out (fun _ hk => trivial)⟩, ⟨by repeat (first | (with_reducible first | exact HB.out | apply below_alloc | apply pw_below_drewN | apply below_drew1) | exact HB.out)⟩⟩
    case rest =>
      clear HC10
      try clear c1
      try clear p2
      try clear c3
      try clear c5
      try clear p6
      try clear c9
      try clear c18
      try clear c18b0
      try clear c18b1
      obtain ⟨kq, x37_9, rfl, HA, HJ9, HO_7, HB⟩ := hcut
      cases kq with
      | zero => exact absurd HA.out (by simp [assayerlaw1_OctetSigns.j0])
      | succ kj9 =>
        have H := HA.out
        clear HA
        simp only [assayerlaw1_OctetSigns.j0] at H
        by_cases c19 : x37_9 = true
        · subst c19
          have H1 : (some false) = some r := by rw [if_pos rfl] at H; exact H
          clear H
          have H := H1
          clear H1
          obtain rfl := Option.some.inj H
          go_wp2
          go_ret
          exact ⟨by first | rfl | (simp [errW_none, errW_some] <;> rfl) | (simp [*, errW_none, errW_some] <;> rfl), by repeat (first | (with_reducible first | exact HB.out | apply below_alloc | apply pw_below_drewN | apply below_drew1) | exact HB.out)⟩
        · replace c19 := Bool.eq_false_iff.mpr c19
          subst c19
          have H1 : (if 8 ≤ (t150.length : Int) then ((octet_Take.f kj9 (t150.drop 8) 2).bind fun bt159 => (if 10 ≤ (t150.length : Int) then ((some (t150.drop (10 : Int).toNat : List Int)).bind fun y161 => (if y161.length < 140737488355328 then ((octet_Take.f kj9 (y161 ++ [a2]) 4).bind fun bt167 => (if bt159.2 = 0 then (if bt167.2 = 0 then (if (wrap64 (t153)) = a0 then (if (IntKind.i16.wrap (bt159.1)) = a1 then (some ((wrap32 ((bt167.1) % 4294967296)) == (wrap32 (a1)))) else (some false)) else (some false)) else (some false)) else (some false))) else (none))) else (none))) else (none)) = some r := by rw [if_neg (show ¬ (false = true) by decide)] at H; exact H
          clear H
          have H := H1
          clear H1
          by_cases c20 : 8 ≤ (t150.length : Int)
          · rw [if_pos c20] at H
            have c20b0 := eq_true c20
            have c20b1 : decide (8 ≤ (t150.length : Int)) = true := decide_eq_true c20
            clear c20
            obtain ⟨y155, hy155⟩ : ∃ y_ : List Int, y_ = (t150.drop 8) := ⟨_, rfl⟩
            replace H : ((octet_Take.f kj9 y155 2).bind fun bt159 => (if 10 ≤ (t150.length : Int) then ((some (t150.drop (10 : Int).toNat : List Int)).bind fun y161 => (if y161.length < 140737488355328 then ((octet_Take.f kj9 (y161 ++ [a2]) 4).bind fun bt167 => (if bt159.2 = 0 then (if bt167.2 = 0 then (if (wrap64 (t153)) = a0 then (if (IntKind.i16.wrap (bt159.1)) = a1 then (some ((wrap32 ((bt167.1) % 4294967296)) == (wrap32 (a1)))) else (some false)) else (some false)) else (some false)) else (some false))) else (none))) else (none))) = some r := by first | (rw [hy155]; with_reducible exact H) | (have H2_ := (Option.bind_some _ _).symm.trans H; rw [hy155]; with_reducible exact H2_) | (have H2_ := (Option.bind_some _ _).symm.trans H; with_reducible exact H2_) | with_reducible exact H | (rw [hy155]; exact H) | exact H
            have Ny155 := Aside0.mk hy155
            clear hy155
            replace H := Option.bind_eq_some_iff.mp H
            obtain ⟨⟨t159, t160⟩, A210, H⟩ := H
            replace H : (if 10 ≤ (t150.length : Int) then ((some (t150.drop (10 : Int).toNat : List Int)).bind fun y161 => (if y161.length < 140737488355328 then ((octet_Take.f kj9 (y161 ++ [a2]) 4).bind fun bt167 => (if t160 = 0 then (if bt167.2 = 0 then (if (wrap64 (t153)) = a0 then (if (IntKind.i16.wrap (t159)) = a1 then (some ((wrap32 ((bt167.1) % 4294967296)) == (wrap32 (a1)))) else (some false)) else (some false)) else (some false)) else (some false))) else (none))) else (none)) = some r := H
            have A21 := Aside0.mk A210
            clear A210
            by_cases c22 : 10 ≤ (t150.length : Int)
            · rw [if_pos c22] at H
              have c22b0 := eq_true c22
              have c22b1 : decide (10 ≤ (t150.length : Int)) = true := decide_eq_true c22
              clear c22
              obtain ⟨y161, hy161⟩ : ∃ y_ : List Int, y_ = (t150.drop (10 : Int).toNat) := ⟨_, rfl⟩
              replace H : (if y161.length < 140737488355328 then ((octet_Take.f kj9 (y161 ++ [a2]) 4).bind fun bt167 => (if t160 = 0 then (if bt167.2 = 0 then (if (wrap64 (t153)) = a0 then (if (IntKind.i16.wrap (t159)) = a1 then (some ((wrap32 ((bt167.1) % 4294967296)) == (wrap32 (a1)))) else (some false)) else (some false)) else (some false)) else (some false))) else (none)) = some r := by first | (rw [hy161]; with_reducible exact H) | (have H2_ := (Option.bind_some _ _).symm.trans H; rw [hy161]; with_reducible exact H2_) | (have H2_ := (Option.bind_some _ _).symm.trans H; with_reducible exact H2_) | with_reducible exact H | (rw [hy161]; exact H) | exact H
              have Ny161 := Aside0.mk hy161
              clear hy161
              by_cases c23 : y161.length < 140737488355328
              · rw [if_pos c23] at H
                have LMc23 := Aside0.mk c23
                clear c23
                obtain ⟨y164, hy164⟩ : ∃ y_ : List Int, y_ = (y161 ++ [a2]) := ⟨_, rfl⟩
                replace H : ((octet_Take.f kj9 y164 4).bind fun bt167 => (if t160 = 0 then (if bt167.2 = 0 then (if (wrap64 (t153)) = a0 then (if (IntKind.i16.wrap (t159)) = a1 then (some ((wrap32 ((bt167.1) % 4294967296)) == (wrap32 (a1)))) else (some false)) else (some false)) else (some false)) else (some false))) = some r := by first | (rw [hy164]; with_reducible exact H) | (have H2_ := (Option.bind_some _ _).symm.trans H; rw [hy164]; with_reducible exact H2_) | (have H2_ := (Option.bind_some _ _).symm.trans H; with_reducible exact H2_) | with_reducible exact H | (rw [hy164]; exact H) | exact H
                have Ny164 := Aside0.mk hy164
                clear hy164
                replace H := Option.bind_eq_some_iff.mp H
                obtain ⟨⟨t167, t168⟩, A240, H⟩ := H
                replace H : (if t160 = 0 then (if t168 = 0 then (if (wrap64 (t153)) = a0 then (if (IntKind.i16.wrap (t159)) = a1 then (some ((wrap32 ((t167) % 4294967296)) == (wrap32 (a1)))) else (some false)) else (some false)) else (some false)) else (some false)) = some r := H
                have A24 := Aside0.mk A240
                clear A240
                by_cases c25 : t160 = 0
                · rw [if_pos c25] at H
                  have c25b0 : (t160 == 0) = true := beq_iff_eq.mpr c25
                  have c25b1 : (t160 != 0) = false := bne_eq_false_iff_eq.mpr c25
                  clear c25
                  by_cases c26 : t168 = 0
                  · rw [if_pos c26] at H
                    have c26b0 : (t168 == 0) = true := beq_iff_eq.mpr c26
                    have c26b1 : (t168 != 0) = false := bne_eq_false_iff_eq.mpr c26
                    clear c26
                    by_cases c27 : (wrap64 (t153)) = a0
                    · rw [if_pos c27] at H
                      have c27b0 : ((wrap64 (t153)) == a0) = true := beq_iff_eq.mpr c27
                      have c27b1 : ((wrap64 (t153)) != a0) = false := bne_eq_false_iff_eq.mpr c27
                      clear c27
                      by_cases c28 : (IntKind.i16.wrap (t159)) = a1
                      · rw [if_pos c28] at H
                        have c28b0 : ((IntKind.i16.wrap (t159)) == a1) = true := beq_iff_eq.mpr c28
                        have c28b1 : ((IntKind.i16.wrap (t159)) != a1) = false := bne_eq_false_iff_eq.mpr c28
                        clear c28
                        obtain rfl := Option.some.inj H
                        have q29 : (8 : Int) ≤ ((t150.length : Int) : Int) := of_decide_eq_true (by first | (with_reducible assumption) | assumption)
                        obtain ⟨i029, hi029, _, hsz29, _⟩ := info_parts info5
                        have hroom29 : t150.length ≤ co17 := (Kd.R_reads' HO_7.out).2.1
                        have hC29 : Kd.C (Kd.int .u8) _ Ao17 t150.length t150 := (Kd.R_reads' HO_7.out).2.2
                        have hcut29 := cut_from (P := Try.prog) 24 5 .i64 Try.underlying24 hi029 1 hsz29 Ao17 t150.length co17 8 (by omega) q29
                        have hr29 := Kd.C_drop (m := (8 : Int).toNat) (c := co17) hC29 (by omega) hroom29
                        obtain ⟨A29, hA29⟩ : ∃ A1, A1 = (if co17 = (8 : Int).toNat then Ao17 else (Ao17 : Option Addr).map (·.add ((8 : Int).toNat * 1))) := ⟨_, rfl⟩
                        obtain ⟨c29, hc29⟩ : ∃ c1, c1 = co17 - (8 : Int).toNat := ⟨_, rfl⟩
                        have hy29 : y155.length = t150.length - (8 : Int).toNat := (by rw [Ny155.out, List.length_drop] <;> omega)
                        rw [show (t150).drop (8 : Int).toNat = y155 from Ny155.out.symm] at hr29
                        replace hr29 : Kd.C (Kd.int .u8) _ A29 y155.length y155 := (by rw [hA29]; exact hr29)
                        rw [← hy29, ← hA29, ← hc29] at hcut29
                        have HR158 := Aside0.mk hr29
                        have HC158 := Aside0.mk (show y155.length ≤ c29 from by rw [hy29, hc29]; exact Nat.sub_le_sub_right hroom29 _)
                        clear hr29 hC29 hroom29 hi029 hsz29 hc29
                        have KY29 := Aside0.mk hy29
                        have KA29 := Aside0.mk hA29
                        clear hy29 hA29
                        have KL29 := Aside0.mk (show 8 ≤ t150.length from by omega)
                        replace q29 := eq_true q29
                        go_wp2_with (first | ((with_reducible refine gate_callee (f := 31) rfl ?_); refine goesL_ (some 41) rfl rfl Try.func31 (by kernel_rfl) rfl #[.slice A29 y155.length c29, .int .i64 2] rfl (by (try simp only [List.map_toArray, List.map_cons, List.map_nil]); first | done | rfl | (simp only [List.length_drop, List.length_take]; rfl)) ?_; (with_reducible refine (octet_Take.calls kj9 _ _ y155 2 t159 t160 _ ?side1 ?side2 A21.out).mono ?_); (case side1 => repeat (first | exact (by repeat (first | (with_reducible exact HR158.out) | (with_reducible refine Kd.C_alloc ?_ _) | (with_reducible refine Kd.C_drewN ?_ _) | (with_reducible refine Kd.C_drew ?_) | exact HR158.out)) | (with_reducible refine Kd.C_alloc ?_ _) | (with_reducible refine Kd.C_drewN ?_ _) | (with_reducible refine Kd.C_drew ?_))); (case side2 => exact HC158.out); rintro e w' ⟨rfl, ⟨nd, rfl⟩⟩; refine ⟨_, rfl, ?_⟩; have q30 : (10 : Int) ≤ ((t150.length : Int) : Int) := of_decide_eq_true (by first | (with_reducible assumption) | assumption); obtain ⟨i030, hi030, _, hsz30, _⟩ := info_parts info5; have hcut30 := cut_from (P := Try.prog) 24 5 .i64 Try.underlying24 hi030 1 hsz30 Ao17 t150.length co17 10 (by omega) q30; have hr30 := Kd.Q_drop (k := (10 : Int).toNat) (Kd.Q_of_R HO_7.out) (by omega); obtain ⟨A30, hA30⟩ : ∃ A1, A1 = (if co17 = (10 : Int).toNat then Ao17 else (Ao17 : Option Addr).map (·.add ((10 : Int).toNat * 1))) := ⟨_, rfl⟩; obtain ⟨c30, hc30⟩ : ∃ c1, c1 = co17 - (10 : Int).toNat := ⟨_, rfl⟩; have hy30 : y161.length = t150.length - (10 : Int).toNat := (by rw [Ny161.out, List.length_drop]); rw [← Ny161.out] at hr30; rw [← hy30, ← hA30, ← hc30] at hcut30; replace hr30 : Kd.Q (Kd.int .u8) 5 wc w.heap.size (fun _ => True) (.slice A30 y161.length c30) y161 := (by rw [hA30, hc30, hy30]; exact hr30); have HE30 : Aside0 ((Value.slice A30 y161.length c30).ownBlock = (.slice Ao17 t150.length co17 : Value).ownBlock) := ⟨by rw [hA30]; split <;> (cases (Ao17 : Option Addr) <;> rfl)⟩; clear hy30 hi030 hsz30 HO_7 hA30 hc30; have HO163 := Aside0.mk hr30; clear hr30; replace q30 := eq_true q30) | ((with_reducible refine gate_builtin (b := .append) (xs := #[.tmp 46, .tmp 48]) rfl ?_); (try (refine gate_guard (by rfl) ?_; dsimp only)); at_builtin; refine Kd.Q_append (Kd.int .u8) (w0 := w) w.heap.size rfl (.tmp 46) (.tmp 48) 24 5 (.int .u8 0) 1 rfl Try.underlying24 info5 rfl (by decide) (by omega) (.slice A30 y161.length c30) y161 a2 [.int .u8 a2] (fun _ => True) (fun _ => False) rfl rfl ?aP (fun _ hk => hk.elim) ?aF ?aO ?aB ?aS ?aL ?_; (case aP => exact rfl); (case aB => exact (by repeat (first | (with_reducible first | exact HB.out | apply below_alloc | apply pw_below_drewN | apply below_drew1) | exact HB.out))); (case aF => exact (fun _ _ => trivial)); (case aO => exact (by (with_reducible repeat (first | apply Kd.Q_alloc | apply Kd.Q_drewN | apply Kd.Q_drew)); exact HO163.out)); (case aS => exact (below_size (by repeat (first | (with_reducible first | exact HB.out | apply below_alloc | apply pw_below_drewN | apply below_drew1) | exact HB.out)))); (case aL => have := LMc23.out; omega); intro v165 w31 ho hb hg hat; rw [← Ny164.out] at ho; have n0_ := Aside0.mk (hb); have n1_ := Aside0.mk (ho); clear HB; clear HO163; have HB := n0_; have HO166 := n1_; clear n0_ n1_; clear ho hb hg hat; obtain ⟨Ao32, co32, eo32, _⟩ := Kd.Q_slice HO166.out; subst eo32) | ((with_reducible refine gate_callee (f := 31) rfl ?_); refine goesL_ (some 50) rfl rfl Try.func31 (by kernel_rfl) rfl #[.slice Ao32 y164.length co32, .int .i64 4] rfl (by (try simp only [List.map_toArray, List.map_cons, List.map_nil]); first | done | rfl | (simp only [List.length_drop, List.length_take]; rfl)) ?_; (with_reducible refine (octet_Take.calls kj9 _ _ y164 4 t167 t168 _ ?side1 ?side2 A24.out).mono ?_); (case side1 => repeat (first | exact (Kd.Q_reads' HO166.out).2.2 | (with_reducible refine Kd.C_alloc ?_ _) | (with_reducible refine Kd.C_drewN ?_ _) | (with_reducible refine Kd.C_drew ?_))); (case side2 => exact (Kd.Q_reads' HO166.out).2.1); rintro e w' ⟨rfl, ⟨nd, rfl⟩⟩; refine ⟨_, rfl, ?_⟩))
                        go_ret
                        exact ⟨by first | rfl | (simp [errW_none, errW_some] <;> rfl) | (simp [*, errW_none, errW_some] <;> rfl), by repeat (first | (with_reducible first | exact HB.out | apply below_alloc | apply pw_below_drewN | apply below_drew1) | exact HB.out)⟩
                      · rw [if_neg c28] at H
                        have c28b0 : ((IntKind.i16.wrap (t159)) == a1) = false := beq_eq_false_iff_ne.mpr c28
                        have c28b1 : ((IntKind.i16.wrap (t159)) != a1) = true := bne_iff_ne.mpr c28
                        obtain rfl := Option.some.inj H
                        have q33 : (8 : Int) ≤ ((t150.length : Int) : Int) := of_decide_eq_true (by first | (with_reducible assumption) | assumption)
                        obtain ⟨i033, hi033, _, hsz33, _⟩ := info_parts info5
                        have hroom33 : t150.length ≤ co17 := (Kd.R_reads' HO_7.out).2.1
                        have hC33 : Kd.C (Kd.int .u8) _ Ao17 t150.length t150 := (Kd.R_reads' HO_7.out).2.2
                        have hcut33 := cut_from (P := Try.prog) 24 5 .i64 Try.underlying24 hi033 1 hsz33 Ao17 t150.length co17 8 (by omega) q33
                        have hr33 := Kd.C_drop (m := (8 : Int).toNat) (c := co17) hC33 (by omega) hroom33
                        obtain ⟨A33, hA33⟩ : ∃ A1, A1 = (if co17 = (8 : Int).toNat then Ao17 else (Ao17 : Option Addr).map (·.add ((8 : Int).toNat * 1))) := ⟨_, rfl⟩
                        obtain ⟨c33, hc33⟩ : ∃ c1, c1 = co17 - (8 : Int).toNat := ⟨_, rfl⟩
                        have hy33 : y155.length = t150.length - (8 : Int).toNat := (by rw [Ny155.out, List.length_drop] <;> omega)
                        rw [show (t150).drop (8 : Int).toNat = y155 from Ny155.out.symm] at hr33
                        replace hr33 : Kd.C (Kd.int .u8) _ A33 y155.length y155 := (by rw [hA33]; exact hr33)
                        rw [← hy33, ← hA33, ← hc33] at hcut33
                        have HR158 := Aside0.mk hr33
                        have HC158 := Aside0.mk (show y155.length ≤ c33 from by rw [hy33, hc33]; exact Nat.sub_le_sub_right hroom33 _)
                        clear hr33 hC33 hroom33 hi033 hsz33 hc33
                        have KY33 := Aside0.mk hy33
                        have KA33 := Aside0.mk hA33
                        clear hy33 hA33
                        have KL33 := Aside0.mk (show 8 ≤ t150.length from by omega)
                        replace q33 := eq_true q33
                        go_wp2_with (first | ((with_reducible refine gate_callee (f := 31) rfl ?_); refine goesL_ (some 41) rfl rfl Try.func31 (by kernel_rfl) rfl #[.slice A33 y155.length c33, .int .i64 2] rfl (by (try simp only [List.map_toArray, List.map_cons, List.map_nil]); first | done | rfl | (simp only [List.length_drop, List.length_take]; rfl)) ?_; (with_reducible refine (octet_Take.calls kj9 _ _ y155 2 t159 t160 _ ?side1 ?side2 A21.out).mono ?_); (case side1 => repeat (first | exact (by repeat (first | (with_reducible exact HR158.out) | (with_reducible refine Kd.C_alloc ?_ _) | (with_reducible refine Kd.C_drewN ?_ _) | (with_reducible refine Kd.C_drew ?_) | exact HR158.out)) | (with_reducible refine Kd.C_alloc ?_ _) | (with_reducible refine Kd.C_drewN ?_ _) | (with_reducible refine Kd.C_drew ?_))); (case side2 => exact HC158.out); rintro e w' ⟨rfl, ⟨nd, rfl⟩⟩; refine ⟨_, rfl, ?_⟩; have q34 : (10 : Int) ≤ ((t150.length : Int) : Int) := of_decide_eq_true (by first | (with_reducible assumption) | assumption); obtain ⟨i034, hi034, _, hsz34, _⟩ := info_parts info5; have hcut34 := cut_from (P := Try.prog) 24 5 .i64 Try.underlying24 hi034 1 hsz34 Ao17 t150.length co17 10 (by omega) q34; have hr34 := Kd.Q_drop (k := (10 : Int).toNat) (Kd.Q_of_R HO_7.out) (by omega); obtain ⟨A34, hA34⟩ : ∃ A1, A1 = (if co17 = (10 : Int).toNat then Ao17 else (Ao17 : Option Addr).map (·.add ((10 : Int).toNat * 1))) := ⟨_, rfl⟩; obtain ⟨c34, hc34⟩ : ∃ c1, c1 = co17 - (10 : Int).toNat := ⟨_, rfl⟩; have hy34 : y161.length = t150.length - (10 : Int).toNat := (by rw [Ny161.out, List.length_drop]); rw [← Ny161.out] at hr34; rw [← hy34, ← hA34, ← hc34] at hcut34; replace hr34 : Kd.Q (Kd.int .u8) 5 wc w.heap.size (fun _ => True) (.slice A34 y161.length c34) y161 := (by rw [hA34, hc34, hy34]; exact hr34); have HE34 : Aside0 ((Value.slice A34 y161.length c34).ownBlock = (.slice Ao17 t150.length co17 : Value).ownBlock) := ⟨by rw [hA34]; split <;> (cases (Ao17 : Option Addr) <;> rfl)⟩; clear hy34 hi034 hsz34 HO_7 hA34 hc34; have HO163 := Aside0.mk hr34; clear hr34; replace q34 := eq_true q34) | ((with_reducible refine gate_builtin (b := .append) (xs := #[.tmp 46, .tmp 48]) rfl ?_); (try (refine gate_guard (by rfl) ?_; dsimp only)); at_builtin; refine Kd.Q_append (Kd.int .u8) (w0 := w) w.heap.size rfl (.tmp 46) (.tmp 48) 24 5 (.int .u8 0) 1 rfl Try.underlying24 info5 rfl (by decide) (by omega) (.slice A34 y161.length c34) y161 a2 [.int .u8 a2] (fun _ => True) (fun _ => False) rfl rfl ?aP (fun _ hk => hk.elim) ?aF ?aO ?aB ?aS ?aL ?_; (case aP => exact rfl); (case aB => exact (by repeat (first | (with_reducible first | exact HB.out | apply below_alloc | apply pw_below_drewN | apply below_drew1) | exact HB.out))); (case aF => exact (fun _ _ => trivial)); (case aO => exact (by (with_reducible repeat (first | apply Kd.Q_alloc | apply Kd.Q_drewN | apply Kd.Q_drew)); exact HO163.out)); (case aS => exact (below_size (by repeat (first | (with_reducible first | exact HB.out | apply below_alloc | apply pw_below_drewN | apply below_drew1) | exact HB.out)))); (case aL => have := LMc23.out; omega); intro v165 w35 ho hb hg hat; rw [← Ny164.out] at ho; have n0_ := Aside0.mk (hb); have n1_ := Aside0.mk (ho); clear HB; clear HO163; have HB := n0_; have HO166 := n1_; clear n0_ n1_; clear ho hb hg hat; obtain ⟨Ao36, co36, eo36, _⟩ := Kd.Q_slice HO166.out; subst eo36) | ((with_reducible refine gate_callee (f := 31) rfl ?_); refine goesL_ (some 50) rfl rfl Try.func31 (by kernel_rfl) rfl #[.slice Ao36 y164.length co36, .int .i64 4] rfl (by (try simp only [List.map_toArray, List.map_cons, List.map_nil]); first | done | rfl | (simp only [List.length_drop, List.length_take]; rfl)) ?_; (with_reducible refine (octet_Take.calls kj9 _ _ y164 4 t167 t168 _ ?side1 ?side2 A24.out).mono ?_); (case side1 => repeat (first | exact (Kd.Q_reads' HO166.out).2.2 | (with_reducible refine Kd.C_alloc ?_ _) | (with_reducible refine Kd.C_drewN ?_ _) | (with_reducible refine Kd.C_drew ?_))); (case side2 => exact (Kd.Q_reads' HO166.out).2.1); rintro e w' ⟨rfl, ⟨nd, rfl⟩⟩; refine ⟨_, rfl, ?_⟩))
                        go_ret
                        exact ⟨by first | rfl | (simp [errW_none, errW_some] <;> rfl) | (simp [*, errW_none, errW_some] <;> rfl), by repeat (first | (with_reducible first | exact HB.out | apply below_alloc | apply pw_below_drewN | apply below_drew1) | exact HB.out)⟩
                    · rw [if_neg c27] at H
                      have c27b0 : ((wrap64 (t153)) == a0) = false := beq_eq_false_iff_ne.mpr c27
                      have c27b1 : ((wrap64 (t153)) != a0) = true := bne_iff_ne.mpr c27
                      obtain rfl := Option.some.inj H
                      have q37 : (8 : Int) ≤ ((t150.length : Int) : Int) := of_decide_eq_true (by first | (with_reducible assumption) | assumption)
                      obtain ⟨i037, hi037, _, hsz37, _⟩ := info_parts info5
                      have hroom37 : t150.length ≤ co17 := (Kd.R_reads' HO_7.out).2.1
                      have hC37 : Kd.C (Kd.int .u8) _ Ao17 t150.length t150 := (Kd.R_reads' HO_7.out).2.2
                      have hcut37 := cut_from (P := Try.prog) 24 5 .i64 Try.underlying24 hi037 1 hsz37 Ao17 t150.length co17 8 (by omega) q37
                      have hr37 := Kd.C_drop (m := (8 : Int).toNat) (c := co17) hC37 (by omega) hroom37
                      obtain ⟨A37, hA37⟩ : ∃ A1, A1 = (if co17 = (8 : Int).toNat then Ao17 else (Ao17 : Option Addr).map (·.add ((8 : Int).toNat * 1))) := ⟨_, rfl⟩
                      obtain ⟨c37, hc37⟩ : ∃ c1, c1 = co17 - (8 : Int).toNat := ⟨_, rfl⟩
                      have hy37 : y155.length = t150.length - (8 : Int).toNat := (by rw [Ny155.out, List.length_drop] <;> omega)
                      rw [show (t150).drop (8 : Int).toNat = y155 from Ny155.out.symm] at hr37
                      replace hr37 : Kd.C (Kd.int .u8) _ A37 y155.length y155 := (by rw [hA37]; exact hr37)
                      rw [← hy37, ← hA37, ← hc37] at hcut37
                      have HR158 := Aside0.mk hr37
                      have HC158 := Aside0.mk (show y155.length ≤ c37 from by rw [hy37, hc37]; exact Nat.sub_le_sub_right hroom37 _)
                      clear hr37 hC37 hroom37 hi037 hsz37 hc37
                      have KY37 := Aside0.mk hy37
                      have KA37 := Aside0.mk hA37
                      clear hy37 hA37
                      have KL37 := Aside0.mk (show 8 ≤ t150.length from by omega)
                      replace q37 := eq_true q37
                      go_wp2_with (first | ((with_reducible refine gate_callee (f := 31) rfl ?_); refine goesL_ (some 41) rfl rfl Try.func31 (by kernel_rfl) rfl #[.slice A37 y155.length c37, .int .i64 2] rfl (by (try simp only [List.map_toArray, List.map_cons, List.map_nil]); first | done | rfl | (simp only [List.length_drop, List.length_take]; rfl)) ?_; (with_reducible refine (octet_Take.calls kj9 _ _ y155 2 t159 t160 _ ?side1 ?side2 A21.out).mono ?_); (case side1 => repeat (first | exact (by repeat (first | (with_reducible exact HR158.out) | (with_reducible refine Kd.C_alloc ?_ _) | (with_reducible refine Kd.C_drewN ?_ _) | (with_reducible refine Kd.C_drew ?_) | exact HR158.out)) | (with_reducible refine Kd.C_alloc ?_ _) | (with_reducible refine Kd.C_drewN ?_ _) | (with_reducible refine Kd.C_drew ?_))); (case side2 => exact HC158.out); rintro e w' ⟨rfl, ⟨nd, rfl⟩⟩; refine ⟨_, rfl, ?_⟩; have q38 : (10 : Int) ≤ ((t150.length : Int) : Int) := of_decide_eq_true (by first | (with_reducible assumption) | assumption); obtain ⟨i038, hi038, _, hsz38, _⟩ := info_parts info5; have hcut38 := cut_from (P := Try.prog) 24 5 .i64 Try.underlying24 hi038 1 hsz38 Ao17 t150.length co17 10 (by omega) q38; have hr38 := Kd.Q_drop (k := (10 : Int).toNat) (Kd.Q_of_R HO_7.out) (by omega); obtain ⟨A38, hA38⟩ : ∃ A1, A1 = (if co17 = (10 : Int).toNat then Ao17 else (Ao17 : Option Addr).map (·.add ((10 : Int).toNat * 1))) := ⟨_, rfl⟩; obtain ⟨c38, hc38⟩ : ∃ c1, c1 = co17 - (10 : Int).toNat := ⟨_, rfl⟩; have hy38 : y161.length = t150.length - (10 : Int).toNat := (by rw [Ny161.out, List.length_drop]); rw [← Ny161.out] at hr38; rw [← hy38, ← hA38, ← hc38] at hcut38; replace hr38 : Kd.Q (Kd.int .u8) 5 wc w.heap.size (fun _ => True) (.slice A38 y161.length c38) y161 := (by rw [hA38, hc38, hy38]; exact hr38); have HE38 : Aside0 ((Value.slice A38 y161.length c38).ownBlock = (.slice Ao17 t150.length co17 : Value).ownBlock) := ⟨by rw [hA38]; split <;> (cases (Ao17 : Option Addr) <;> rfl)⟩; clear hy38 hi038 hsz38 HO_7 hA38 hc38; have HO163 := Aside0.mk hr38; clear hr38; replace q38 := eq_true q38) | ((with_reducible refine gate_builtin (b := .append) (xs := #[.tmp 46, .tmp 48]) rfl ?_); (try (refine gate_guard (by rfl) ?_; dsimp only)); at_builtin; refine Kd.Q_append (Kd.int .u8) (w0 := w) w.heap.size rfl (.tmp 46) (.tmp 48) 24 5 (.int .u8 0) 1 rfl Try.underlying24 info5 rfl (by decide) (by omega) (.slice A38 y161.length c38) y161 a2 [.int .u8 a2] (fun _ => True) (fun _ => False) rfl rfl ?aP (fun _ hk => hk.elim) ?aF ?aO ?aB ?aS ?aL ?_; (case aP => exact rfl); (case aB => exact (by repeat (first | (with_reducible first | exact HB.out | apply below_alloc | apply pw_below_drewN | apply below_drew1) | exact HB.out))); (case aF => exact (fun _ _ => trivial)); (case aO => exact (by (with_reducible repeat (first | apply Kd.Q_alloc | apply Kd.Q_drewN | apply Kd.Q_drew)); exact HO163.out)); (case aS => exact (below_size (by repeat (first | (with_reducible first | exact HB.out | apply below_alloc | apply pw_below_drewN | apply below_drew1) | exact HB.out)))); (case aL => have := LMc23.out; omega); intro v165 w39 ho hb hg hat; rw [← Ny164.out] at ho; have n0_ := Aside0.mk (hb); have n1_ := Aside0.mk (ho); clear HB; clear HO163; have HB := n0_; have HO166 := n1_; clear n0_ n1_; clear ho hb hg hat; obtain ⟨Ao40, co40, eo40, _⟩ := Kd.Q_slice HO166.out; subst eo40) | ((with_reducible refine gate_callee (f := 31) rfl ?_); refine goesL_ (some 50) rfl rfl Try.func31 (by kernel_rfl) rfl #[.slice Ao40 y164.length co40, .int .i64 4] rfl (by (try simp only [List.map_toArray, List.map_cons, List.map_nil]); first | done | rfl | (simp only [List.length_drop, List.length_take]; rfl)) ?_; (with_reducible refine (octet_Take.calls kj9 _ _ y164 4 t167 t168 _ ?side1 ?side2 A24.out).mono ?_); (case side1 => repeat (first | exact (Kd.Q_reads' HO166.out).2.2 | (with_reducible refine Kd.C_alloc ?_ _) | (with_reducible refine Kd.C_drewN ?_ _) | (with_reducible refine Kd.C_drew ?_))); (case side2 => exact (Kd.Q_reads' HO166.out).2.1); rintro e w' ⟨rfl, ⟨nd, rfl⟩⟩; refine ⟨_, rfl, ?_⟩))
                      go_ret
                      exact ⟨by first | rfl | (simp [errW_none, errW_some] <;> rfl) | (simp [*, errW_none, errW_some] <;> rfl), by repeat (first | (with_reducible first | exact HB.out | apply below_alloc | apply pw_below_drewN | apply below_drew1) | exact HB.out)⟩
                  · rw [if_neg c26] at H
                    have c26b0 : (t168 == 0) = false := beq_eq_false_iff_ne.mpr c26
                    have c26b1 : (t168 != 0) = true := bne_iff_ne.mpr c26
                    obtain rfl := Option.some.inj H
                    have q41 : (8 : Int) ≤ ((t150.length : Int) : Int) := of_decide_eq_true (by first | (with_reducible assumption) | assumption)
                    obtain ⟨i041, hi041, _, hsz41, _⟩ := info_parts info5
                    have hroom41 : t150.length ≤ co17 := (Kd.R_reads' HO_7.out).2.1
                    have hC41 : Kd.C (Kd.int .u8) _ Ao17 t150.length t150 := (Kd.R_reads' HO_7.out).2.2
                    have hcut41 := cut_from (P := Try.prog) 24 5 .i64 Try.underlying24 hi041 1 hsz41 Ao17 t150.length co17 8 (by omega) q41
                    have hr41 := Kd.C_drop (m := (8 : Int).toNat) (c := co17) hC41 (by omega) hroom41
                    obtain ⟨A41, hA41⟩ : ∃ A1, A1 = (if co17 = (8 : Int).toNat then Ao17 else (Ao17 : Option Addr).map (·.add ((8 : Int).toNat * 1))) := ⟨_, rfl⟩
                    obtain ⟨c41, hc41⟩ : ∃ c1, c1 = co17 - (8 : Int).toNat := ⟨_, rfl⟩
                    have hy41 : y155.length = t150.length - (8 : Int).toNat := (by rw [Ny155.out, List.length_drop] <;> omega)
                    rw [show (t150).drop (8 : Int).toNat = y155 from Ny155.out.symm] at hr41
                    replace hr41 : Kd.C (Kd.int .u8) _ A41 y155.length y155 := (by rw [hA41]; exact hr41)
                    rw [← hy41, ← hA41, ← hc41] at hcut41
                    have HR158 := Aside0.mk hr41
                    have HC158 := Aside0.mk (show y155.length ≤ c41 from by rw [hy41, hc41]; exact Nat.sub_le_sub_right hroom41 _)
                    clear hr41 hC41 hroom41 hi041 hsz41 hc41
                    have KY41 := Aside0.mk hy41
                    have KA41 := Aside0.mk hA41
                    clear hy41 hA41
                    have KL41 := Aside0.mk (show 8 ≤ t150.length from by omega)
                    replace q41 := eq_true q41
                    go_wp2_with (first | ((with_reducible refine gate_callee (f := 31) rfl ?_); refine goesL_ (some 41) rfl rfl Try.func31 (by kernel_rfl) rfl #[.slice A41 y155.length c41, .int .i64 2] rfl (by (try simp only [List.map_toArray, List.map_cons, List.map_nil]); first | done | rfl | (simp only [List.length_drop, List.length_take]; rfl)) ?_; (with_reducible refine (octet_Take.calls kj9 _ _ y155 2 t159 t160 _ ?side1 ?side2 A21.out).mono ?_); (case side1 => repeat (first | exact (by repeat (first | (with_reducible exact HR158.out) | (with_reducible refine Kd.C_alloc ?_ _) | (with_reducible refine Kd.C_drewN ?_ _) | (with_reducible refine Kd.C_drew ?_) | exact HR158.out)) | (with_reducible refine Kd.C_alloc ?_ _) | (with_reducible refine Kd.C_drewN ?_ _) | (with_reducible refine Kd.C_drew ?_))); (case side2 => exact HC158.out); rintro e w' ⟨rfl, ⟨nd, rfl⟩⟩; refine ⟨_, rfl, ?_⟩; have q42 : (10 : Int) ≤ ((t150.length : Int) : Int) := of_decide_eq_true (by first | (with_reducible assumption) | assumption); obtain ⟨i042, hi042, _, hsz42, _⟩ := info_parts info5; have hcut42 := cut_from (P := Try.prog) 24 5 .i64 Try.underlying24 hi042 1 hsz42 Ao17 t150.length co17 10 (by omega) q42; have hr42 := Kd.Q_drop (k := (10 : Int).toNat) (Kd.Q_of_R HO_7.out) (by omega); obtain ⟨A42, hA42⟩ : ∃ A1, A1 = (if co17 = (10 : Int).toNat then Ao17 else (Ao17 : Option Addr).map (·.add ((10 : Int).toNat * 1))) := ⟨_, rfl⟩; obtain ⟨c42, hc42⟩ : ∃ c1, c1 = co17 - (10 : Int).toNat := ⟨_, rfl⟩; have hy42 : y161.length = t150.length - (10 : Int).toNat := (by rw [Ny161.out, List.length_drop]); rw [← Ny161.out] at hr42; rw [← hy42, ← hA42, ← hc42] at hcut42; replace hr42 : Kd.Q (Kd.int .u8) 5 wc w.heap.size (fun _ => True) (.slice A42 y161.length c42) y161 := (by rw [hA42, hc42, hy42]; exact hr42); have HE42 : Aside0 ((Value.slice A42 y161.length c42).ownBlock = (.slice Ao17 t150.length co17 : Value).ownBlock) := ⟨by rw [hA42]; split <;> (cases (Ao17 : Option Addr) <;> rfl)⟩; clear hy42 hi042 hsz42 HO_7 hA42 hc42; have HO163 := Aside0.mk hr42; clear hr42; replace q42 := eq_true q42) | ((with_reducible refine gate_builtin (b := .append) (xs := #[.tmp 46, .tmp 48]) rfl ?_); (try (refine gate_guard (by rfl) ?_; dsimp only)); at_builtin; refine Kd.Q_append (Kd.int .u8) (w0 := w) w.heap.size rfl (.tmp 46) (.tmp 48) 24 5 (.int .u8 0) 1 rfl Try.underlying24 info5 rfl (by decide) (by omega) (.slice A42 y161.length c42) y161 a2 [.int .u8 a2] (fun _ => True) (fun _ => False) rfl rfl ?aP (fun _ hk => hk.elim) ?aF ?aO ?aB ?aS ?aL ?_; (case aP => exact rfl); (case aB => exact (by repeat (first | (with_reducible first | exact HB.out | apply below_alloc | apply pw_below_drewN | apply below_drew1) | exact HB.out))); (case aF => exact (fun _ _ => trivial)); (case aO => exact (by (with_reducible repeat (first | apply Kd.Q_alloc | apply Kd.Q_drewN | apply Kd.Q_drew)); exact HO163.out)); (case aS => exact (below_size (by repeat (first | (with_reducible first | exact HB.out | apply below_alloc | apply pw_below_drewN | apply below_drew1) | exact HB.out)))); (case aL => have := LMc23.out; omega); intro v165 w43 ho hb hg hat; rw [← Ny164.out] at ho; have n0_ := Aside0.mk (hb); have n1_ := Aside0.mk (ho); clear HB; clear HO163; have HB := n0_; have HO166 := n1_; clear n0_ n1_; clear ho hb hg hat; obtain ⟨Ao44, co44, eo44, _⟩ := Kd.Q_slice HO166.out; subst eo44) | ((with_reducible refine gate_callee (f := 31) rfl ?_); refine goesL_ (some 50) rfl rfl Try.func31 (by kernel_rfl) rfl #[.slice Ao44 y164.length co44, .int .i64 4] rfl (by (try simp only [List.map_toArray, List.map_cons, List.map_nil]); first | done | rfl | (simp only [List.length_drop, List.length_take]; rfl)) ?_; (with_reducible refine (octet_Take.calls kj9 _ _ y164 4 t167 t168 _ ?side1 ?side2 A24.out).mono ?_); (case side1 => repeat (first | exact (Kd.Q_reads' HO166.out).2.2 | (with_reducible refine Kd.C_alloc ?_ _) | (with_reducible refine Kd.C_drewN ?_ _) | (with_reducible refine Kd.C_drew ?_))); (case side2 => exact (Kd.Q_reads' HO166.out).2.1); rintro e w' ⟨rfl, ⟨nd, rfl⟩⟩; refine ⟨_, rfl, ?_⟩))
                    go_ret
                    exact ⟨by first | rfl | (simp [errW_none, errW_some] <;> rfl) | (simp [*, errW_none, errW_some] <;> rfl), by repeat (first | (with_reducible first | exact HB.out | apply below_alloc | apply pw_below_drewN | apply below_drew1) | exact HB.out)⟩
                · rw [if_neg c25] at H
                  have c25b0 : (t160 == 0) = false := beq_eq_false_iff_ne.mpr c25
                  have c25b1 : (t160 != 0) = true := bne_iff_ne.mpr c25
                  obtain rfl := Option.some.inj H
                  have q45 : (8 : Int) ≤ ((t150.length : Int) : Int) := of_decide_eq_true (by first | (with_reducible assumption) | assumption)
                  obtain ⟨i045, hi045, _, hsz45, _⟩ := info_parts info5
                  have hroom45 : t150.length ≤ co17 := (Kd.R_reads' HO_7.out).2.1
                  have hC45 : Kd.C (Kd.int .u8) _ Ao17 t150.length t150 := (Kd.R_reads' HO_7.out).2.2
                  have hcut45 := cut_from (P := Try.prog) 24 5 .i64 Try.underlying24 hi045 1 hsz45 Ao17 t150.length co17 8 (by omega) q45
                  have hr45 := Kd.C_drop (m := (8 : Int).toNat) (c := co17) hC45 (by omega) hroom45
                  obtain ⟨A45, hA45⟩ : ∃ A1, A1 = (if co17 = (8 : Int).toNat then Ao17 else (Ao17 : Option Addr).map (·.add ((8 : Int).toNat * 1))) := ⟨_, rfl⟩
                  obtain ⟨c45, hc45⟩ : ∃ c1, c1 = co17 - (8 : Int).toNat := ⟨_, rfl⟩
                  have hy45 : y155.length = t150.length - (8 : Int).toNat := (by rw [Ny155.out, List.length_drop] <;> omega)
                  rw [show (t150).drop (8 : Int).toNat = y155 from Ny155.out.symm] at hr45
                  replace hr45 : Kd.C (Kd.int .u8) _ A45 y155.length y155 := (by rw [hA45]; exact hr45)
                  rw [← hy45, ← hA45, ← hc45] at hcut45
                  have HR158 := Aside0.mk hr45
                  have HC158 := Aside0.mk (show y155.length ≤ c45 from by rw [hy45, hc45]; exact Nat.sub_le_sub_right hroom45 _)
                  clear hr45 hC45 hroom45 hi045 hsz45 hc45
                  have KY45 := Aside0.mk hy45
                  have KA45 := Aside0.mk hA45
                  clear hy45 hA45
                  have KL45 := Aside0.mk (show 8 ≤ t150.length from by omega)
                  replace q45 := eq_true q45
                  go_wp2_with (first | ((with_reducible refine gate_callee (f := 31) rfl ?_); refine goesL_ (some 41) rfl rfl Try.func31 (by kernel_rfl) rfl #[.slice A45 y155.length c45, .int .i64 2] rfl (by (try simp only [List.map_toArray, List.map_cons, List.map_nil]); first | done | rfl | (simp only [List.length_drop, List.length_take]; rfl)) ?_; (with_reducible refine (octet_Take.calls kj9 _ _ y155 2 t159 t160 _ ?side1 ?side2 A21.out).mono ?_); (case side1 => repeat (first | exact (by repeat (first | (with_reducible exact HR158.out) | (with_reducible refine Kd.C_alloc ?_ _) | (with_reducible refine Kd.C_drewN ?_ _) | (with_reducible refine Kd.C_drew ?_) | exact HR158.out)) | (with_reducible refine Kd.C_alloc ?_ _) | (with_reducible refine Kd.C_drewN ?_ _) | (with_reducible refine Kd.C_drew ?_))); (case side2 => exact HC158.out); rintro e w' ⟨rfl, ⟨nd, rfl⟩⟩; refine ⟨_, rfl, ?_⟩; have q46 : (10 : Int) ≤ ((t150.length : Int) : Int) := of_decide_eq_true (by first | (with_reducible assumption) | assumption); obtain ⟨i046, hi046, _, hsz46, _⟩ := info_parts info5; have hcut46 := cut_from (P := Try.prog) 24 5 .i64 Try.underlying24 hi046 1 hsz46 Ao17 t150.length co17 10 (by omega) q46; have hr46 := Kd.Q_drop (k := (10 : Int).toNat) (Kd.Q_of_R HO_7.out) (by omega); obtain ⟨A46, hA46⟩ : ∃ A1, A1 = (if co17 = (10 : Int).toNat then Ao17 else (Ao17 : Option Addr).map (·.add ((10 : Int).toNat * 1))) := ⟨_, rfl⟩; obtain ⟨c46, hc46⟩ : ∃ c1, c1 = co17 - (10 : Int).toNat := ⟨_, rfl⟩; have hy46 : y161.length = t150.length - (10 : Int).toNat := (by rw [Ny161.out, List.length_drop]); rw [← Ny161.out] at hr46; rw [← hy46, ← hA46, ← hc46] at hcut46; replace hr46 : Kd.Q (Kd.int .u8) 5 wc w.heap.size (fun _ => True) (.slice A46 y161.length c46) y161 := (by rw [hA46, hc46, hy46]; exact hr46); have HE46 : Aside0 ((Value.slice A46 y161.length c46).ownBlock = (.slice Ao17 t150.length co17 : Value).ownBlock) := ⟨by rw [hA46]; split <;> (cases (Ao17 : Option Addr) <;> rfl)⟩; clear hy46 hi046 hsz46 HO_7 hA46 hc46; have HO163 := Aside0.mk hr46; clear hr46; replace q46 := eq_true q46) | ((with_reducible refine gate_builtin (b := .append) (xs := #[.tmp 46, .tmp 48]) rfl ?_); (try (refine gate_guard (by rfl) ?_; dsimp only)); at_builtin; refine Kd.Q_append (Kd.int .u8) (w0 := w) w.heap.size rfl (.tmp 46) (.tmp 48) 24 5 (.int .u8 0) 1 rfl Try.underlying24 info5 rfl (by decide) (by omega) (.slice A46 y161.length c46) y161 a2 [.int .u8 a2] (fun _ => True) (fun _ => False) rfl rfl ?aP (fun _ hk => hk.elim) ?aF ?aO ?aB ?aS ?aL ?_; (case aP => exact rfl); (case aB => exact (by repeat (first | (with_reducible first | exact HB.out | apply below_alloc | apply pw_below_drewN | apply below_drew1) | exact HB.out))); (case aF => exact (fun _ _ => trivial)); (case aO => exact (by (with_reducible repeat (first | apply Kd.Q_alloc | apply Kd.Q_drewN | apply Kd.Q_drew)); exact HO163.out)); (case aS => exact (below_size (by repeat (first | (with_reducible first | exact HB.out | apply below_alloc | apply pw_below_drewN | apply below_drew1) | exact HB.out)))); (case aL => have := LMc23.out; omega); intro v165 w47 ho hb hg hat; rw [← Ny164.out] at ho; have n0_ := Aside0.mk (hb); have n1_ := Aside0.mk (ho); clear HB; clear HO163; have HB := n0_; have HO166 := n1_; clear n0_ n1_; clear ho hb hg hat; obtain ⟨Ao48, co48, eo48, _⟩ := Kd.Q_slice HO166.out; subst eo48) | ((with_reducible refine gate_callee (f := 31) rfl ?_); refine goesL_ (some 50) rfl rfl Try.func31 (by kernel_rfl) rfl #[.slice Ao48 y164.length co48, .int .i64 4] rfl (by (try simp only [List.map_toArray, List.map_cons, List.map_nil]); first | done | rfl | (simp only [List.length_drop, List.length_take]; rfl)) ?_; (with_reducible refine (octet_Take.calls kj9 _ _ y164 4 t167 t168 _ ?side1 ?side2 A24.out).mono ?_); (case side1 => repeat (first | exact (Kd.Q_reads' HO166.out).2.2 | (with_reducible refine Kd.C_alloc ?_ _) | (with_reducible refine Kd.C_drewN ?_ _) | (with_reducible refine Kd.C_drew ?_))); (case side2 => exact (Kd.Q_reads' HO166.out).2.1); rintro e w' ⟨rfl, ⟨nd, rfl⟩⟩; refine ⟨_, rfl, ?_⟩))
                  go_ret
                  exact ⟨by first | rfl | (simp [errW_none, errW_some] <;> rfl) | (simp [*, errW_none, errW_some] <;> rfl), by repeat (first | (with_reducible first | exact HB.out | apply below_alloc | apply pw_below_drewN | apply below_drew1) | exact HB.out)⟩
              · rw [if_neg c23] at H
                exact absurd H (by simp)
            · rw [if_neg c22] at H
              exact absurd H (by simp)
          · rw [if_neg c20] at H
            exact absurd H (by simp)
  · replace c5 := Bool.eq_false_iff.mpr c5
    subst c5
    have H1 : (some false) = some r := by rw [if_neg (show ¬ (false = true) by decide)] at H; exact H
    clear H
    have H := H1
    clear H1
    obtain rfl := Option.some.inj H
    go_enter Try.func9, Try.ntmps9
    go_wp2_with (first | ((with_reducible refine gate_callee (f := 30) rfl ?_); refine goesL_ (some 14) rfl rfl Try.func30 (by kernel_rfl) rfl #[] rfl (by (try simp only [List.map_toArray, List.map_cons, List.map_nil]); first | done | rfl | (simp only [List.length_drop, List.length_take]; rfl)) ?_; (with_reducible refine (assayerlaw1_begun.calls  false _ A4.out).mono ?_); rintro e w49 ⟨rfl, hb⟩; refine ⟨_, rfl, ?_⟩; have n0_ := Aside0.mk (below_step (by repeat (first | (with_reducible first | exact HB.out | apply below_alloc | apply pw_below_drewN | apply below_drew1) | exact HB.out)) hb); clear HB; have HB := n0_; clear n0_; (try clear hb); (try clear hb2); (try clear hk); (try clear hi)))
    go_ret
    exact ⟨by first | rfl | (simp [errW_none, errW_some] <;> rfl) | (simp [*, errW_none, errW_some] <;> rfl), by repeat (first | (with_reducible first | exact HB.out | apply below_alloc | apply pw_below_drewN | apply below_drew1) | exact HB.out)⟩

/-- THE ONE PURE STATEMENT of assayerlaw1_OctetSigns: yours. -/
def assayerlaw1_OctetSigns.Pure : Prop := ∀ (a0 : Int) (a1 : Int) (a2 : Int), (Lit.int .i64 a0).wf = true → (Lit.int .i16 a1).wf = true → (Lit.int .u8 a2).wf = true → ∃ k, assayerlaw1_OctetSigns.f k a0 a1 a2 = some true
theorem assayerlaw1_OctetSigns.walk (P : assayerlaw1_OctetSigns.Pure) (a0 : Int) (a1 : Int) (a2 : Int) (w : World) (w0 : (Lit.int .i64 a0).wf = true) (w1 : (Lit.int .i16 a1).wf = true) (w2 : (Lit.int .u8 a2).wf = true) :
    Calls Try.prog 9 #[.int .i64 a0, .int .i16 a1, .int .u8 a2] w fun e w' => e = .returned (.bool true) ∧ Below w.heap.size w w' := by
  obtain ⟨k, h⟩ := P a0 a1 a2 w0 w1 w2
  refine (assayerlaw1_OctetSigns.calls k a0 a1 a2 true w h).mono ?_
  rintro e w' ⟨rfl, hd⟩
  exact ⟨rfl, hd⟩

/-! ### assayerref1_Take: function 32 -/
mutual
def assayerref1_Take.j0 : Nat → List Int → Int → Bool → Option (Int × Int)
  | 0, _, _, _ => none
  | k + 1, x0, x1, x8 => if x8 = true then (some (0, 1)) else (if x1 > (x0.length : Int) then (some (0, 3)) else (assayerref1_Take.l0 k x0 x1 0 0))
def assayerref1_Take.l0 : Nat → List Int → Int → Int → Int → Option (Int × Int)
  | 0, _, _, _, _ => none
  | k + 1, x0, x1, x6, x7 => if x7 < x1 then (if 0 ≤ x7 then (if x7 < (x0.length : Int) then (assayerref1_Take.l0 k x0 x1 (IntKind.u64.wrap ((IntKind.u64.wrap (x6 * 256)) + (IntKind.u64.wrap (rd x0 x7)))) (wrap64 (x7 + 1))) else (none)) else (none)) else (some (x6, 0))
end
def assayerref1_Take.f (k : Nat) (l0 : List Int) (a1 : Int) : Option (Int × Int) := if a1 < 0 then (assayerref1_Take.j0 k l0 a1 true) else (assayerref1_Take.j0 k l0 a1 (decide (a1 > 8)))
theorem assayerref1_Take.mono_l : ∀ k, (∀ y0 y1 y2, LeO (assayerref1_Take.j0 k y0 y1 y2) (assayerref1_Take.j0 (k + 1) y0 y1 y2)) ∧ (∀ y0 y1 y2 y3, LeO (assayerref1_Take.l0 k y0 y1 y2 y3) (assayerref1_Take.l0 (k + 1) y0 y1 y2 y3))
  | 0 => ⟨fun _ _ _ r h => by simp [assayerref1_Take.j0] at h, fun _ _ _ _ r h => by simp [assayerref1_Take.l0] at h⟩
  | k + 1 => by
    obtain ⟨ih0, ih1⟩ := assayerref1_Take.mono_l k
    refine ⟨?_, ?_⟩
    · intro y0 y1 y2
      unfold assayerref1_Take.j0
      repeat' first
      | (with_reducible exact ih0 _ _ _)
      | (with_reducible exact ih1 _ _ _ _)
      | (with_reducible exact LeO.refl _)
      | (with_reducible exact LeO.none _)
      | (with_reducible refine LeO.ite ?_ ?_)
      | (with_reducible refine LeO.bind ?_ (fun _ => ?_))
      | exact ih0 _ _ _
      | exact ih1 _ _ _ _
      | exact LeO.none _
      | refine LeO.ite ?_ ?_
      | refine LeO.bind ?_ (fun _ => ?_)
    · intro y0 y1 y2 y3
      unfold assayerref1_Take.l0
      repeat' first
      | (with_reducible exact ih0 _ _ _)
      | (with_reducible exact ih1 _ _ _ _)
      | (with_reducible exact LeO.refl _)
      | (with_reducible exact LeO.none _)
      | (with_reducible refine LeO.ite ?_ ?_)
      | (with_reducible refine LeO.bind ?_ (fun _ => ?_))
      | exact ih0 _ _ _
      | exact ih1 _ _ _ _
      | exact LeO.none _
      | refine LeO.ite ?_ ?_
      | refine LeO.bind ?_ (fun _ => ?_)
theorem assayerref1_Take.mono : ∀ a0 a1 k, LeO (assayerref1_Take.f k a0 a1) (assayerref1_Take.f (k + 1) a0 a1) := by
  intro a0 a1 k
  obtain ⟨ih0, ih1⟩ := assayerref1_Take.mono_l k
  unfold assayerref1_Take.f
  repeat' first
      | (with_reducible exact ih0 _ _ _)
      | (with_reducible exact ih1 _ _ _ _)
      | (with_reducible exact LeO.refl _)
      | (with_reducible exact LeO.none _)
      | (with_reducible refine LeO.ite ?_ ?_)
      | (with_reducible refine LeO.bind ?_ (fun _ => ?_))
      | exact ih0 _ _ _
      | exact ih1 _ _ _ _
      | exact LeO.none _
      | refine LeO.ite ?_ ?_
      | refine LeO.bind ?_ (fun _ => ?_)
set_option maxHeartbeats 8000000 in
set_option maxRecDepth 100000 in
theorem assayerref1_Take.calls (k : Nat) (A0 : Option Addr) (c0 : Nat) (l0 : List Int) (a1 : Int) (r1 : Int) (r2 : Int) (w : World) (hr0 : Kd.C (Kd.int .u8) w A0 l0.length l0) (hc0 : l0.length ≤ c0) (h : assayerref1_Take.f k l0 a1 = some (r1, r2)) :
    Calls Try.prog 32 #[.slice A0 l0.length c0, .int .i64 a1] w fun e w' => e = .returned (.tuple #[.int .u64 r1, .int .i64 r2]) ∧ Drawn0 w w' := by
  have HR0 := Aside0.mk hr0
  have HC0 := Aside0.mk hc0
  clear hr0 hc0
  have H : (if a1 < 0 then (assayerref1_Take.j0 k l0 a1 true) else (assayerref1_Take.j0 k l0 a1 (decide (a1 > 8)))) = some (r1, r2) := h
  clear h
  have HC3 := Aside0.mk H
  clear H
  go_enter Try.func32, Try.ntmps32
  go_upto_region 1 with (fail)
  go_cut [8] (fun v8 wc => ∃ (kq : Nat) (x8_2 : Bool), v8 = .bool x8_2 ∧ Aside0 (assayerref1_Take.j0 kq l0 a1 x8_2 = some (r1, r2)) ∧ Aside0 (kq ≤ k) ∧ Drawn0 w wc)
  case first =>
    have H := HC3.out
    clear HC3
    by_cases c4 : a1 < 0
    · rw [if_pos c4] at H
      have c4b0 : decide (a1 < 0) = true := decide_eq_true c4
      clear c4
      (first | rw [c4b0] | (simp only [i64_w, i32_w]; rw [c4b0]) | skip)
      have H' := Aside0.mk H
      clear H
      go_wp2
      go_meet
      case rel => exact ⟨_, (true), (by first | rfl | (simp; done) | (simp [*]; done)), H', ⟨by first | omega | exact Nat.le_refl _⟩, by repeat (first | exact Drawn0.refl _ | apply Drawn0.step)⟩
    · rw [if_neg c4] at H
      have c4b0 : decide (a1 < 0) = false := decide_eq_false c4
      clear c4
      (first | rw [c4b0] | (simp only [i64_w, i32_w]; rw [c4b0]) | skip)
      have H' := Aside0.mk H
      clear H
      go_wp2
      go_meet
      case rel => exact ⟨_, (decide (a1 > 8)), (by first | rfl | (simp; done) | (simp [*]; done)), H', ⟨by first | omega | exact Nat.le_refl _⟩, by repeat (first | exact Drawn0.refl _ | apply Drawn0.step)⟩
  case rest =>
    clear HC3
    try clear p2
    try clear c3
    try clear c4
    try clear c4b0
    obtain ⟨kq, x8_2, rfl, HA, HJ2, ⟨mc2, rfl⟩⟩ := hcut
    cases kq with
    | zero => exact absurd HA.out (by simp [assayerref1_Take.j0])
    | succ kj2 =>
      have H := HA.out
      clear HA
      simp only [assayerref1_Take.j0] at H
      by_cases c5 : x8_2 = true
      · subst c5
        have H1 : (some (0, 1)) = some (r1, r2) := by rw [if_pos rfl] at H; exact H
        clear H
        have H := H1
        clear H1
        simp only [Option.some.injEq, Prod.mk.injEq] at H
        obtain ⟨rfl, rfl⟩ := H
        go_wp2
        go_ret2
        exact ⟨by first | rfl | (simp; done) | (simp [*]; done), by repeat (first | exact Drawn0.refl _ | apply Drawn0.step)⟩
      · replace c5 := Bool.eq_false_iff.mpr c5
        subst c5
        have H1 : (if a1 > (l0.length : Int) then (some (0, 3)) else (assayerref1_Take.l0 kj2 l0 a1 0 0)) = some (r1, r2) := by rw [if_neg (show ¬ (false = true) by decide)] at H; exact H
        clear H
        have H := H1
        clear H1
        by_cases c6 : a1 > (l0.length : Int)
        · rw [if_pos c6] at H
          have c6b0 : decide ((l0.length : Int) < a1) = true := decide_eq_true c6
          clear c6
          simp only [Option.some.injEq, Prod.mk.injEq] at H
          obtain ⟨rfl, rfl⟩ := H
          go_wp2
          go_ret2
          exact ⟨by first | rfl | (simp; done) | (simp [*]; done), by repeat (first | exact Drawn0.refl _ | apply Drawn0.step)⟩
        · rw [if_neg c6] at H
          have c6b0 : decide ((l0.length : Int) < a1) = false := decide_eq_false c6
          clear c6
          have H' := Aside0.mk H
          clear H
          go_wp2
          go_loopg [6, 7] kj2 (fun kq v6 v7 w' => ∃ (x6_2 : Int) (x7_2 : Int), v6 = .int .u64 x6_2 ∧ v7 = .int .i64 x7_2 ∧ Aside0 (assayerref1_Take.l0 kq l0 a1 x6_2 x7_2 = some (r1, r2)) ∧ Aside0 (kq ≤ kj2) ∧ Drawn0 w w')
          case atStart => exact ⟨(0), (0), (by first | rfl | (simp; done) | (simp [*]; done)), (by first | rfl | (simp; done) | (simp [*]; done)), H', ⟨Nat.le_refl _⟩, by repeat (first | exact Drawn0.refl _ | apply Drawn0.step)⟩
          case round =>
            clear H'
            try clear c2
            try clear p2
            try clear c3
            try clear c4
            try clear c4b0
            try clear c5
            try clear c6
            try clear c6b0
            try clear p2
            obtain ⟨x6_2, x7_2, rfl, rfl, HA, HK2, ⟨m2, rfl⟩⟩ := hrel
            cases gk with
            | zero => exact absurd HA.out (by simp [assayerref1_Take.l0])
            | succ k2 =>
              have H := HA.out
              clear HA
              simp only [assayerref1_Take.l0] at H
              by_cases c7 : x7_2 < a1
              · rw [if_pos c7] at H
                have c7b0 : decide (x7_2 < a1) = true := decide_eq_true c7
                clear c7
                by_cases c8 : 0 ≤ x7_2
                · rw [if_pos c8] at H
                  have c8b0 : decide (0 ≤ x7_2) = true := decide_eq_true c8
                  clear c8
                  by_cases c9 : x7_2 < (l0.length : Int)
                  · rw [if_pos c9] at H
                    have c9b0 : decide (x7_2 < (l0.length : Int)) = true := decide_eq_true c9
                    clear c9
                    have H' := Aside0.mk H
                    clear H
                    have p169 : 0 ≤ (x7_2 : Int) := of_decide_eq_true (by first | (with_reducible assumption) | assumption)
                    have q169 : x7_2 < (l0.length : Int) := of_decide_eq_true (by first | (with_reducible assumption) | assumption)
                    obtain ⟨ad169, e169, hx169_0⟩ := Kd.at_int HR0.out x7_2 p169 q169
                    cases e169
                    replace p169 := eq_true p169
                    replace q169 := eq_true q169
                    go_wp2
                    go_roundg k2
                    case measure => have := HJ2.out; have := HK2.out; omega
                    case rel => exact ⟨(IntKind.u64.wrap ((IntKind.u64.wrap (x6_2 * 256)) + (IntKind.u64.wrap (rd l0 x7_2)))), (wrap64 (x7_2 + 1)), (by first | rfl | (simp; done) | (simp [*]; done)), (by first | rfl | (simp; done) | (simp [*]; done)), H', ⟨by have := HJ2.out; have := HK2.out; omega⟩, by repeat (first | exact Drawn0.refl _ | apply Drawn0.step)⟩
                  · rw [if_neg c9] at H
                    exact absurd H (by simp)
                · rw [if_neg c8] at H
                  exact absurd H (by simp)
              · rw [if_neg c7] at H
                have c7b0 : decide (x7_2 < a1) = false := decide_eq_false c7
                clear c7
                simp only [Option.some.injEq, Prod.mk.injEq] at H
                obtain ⟨rfl, rfl⟩ := H
                go_wp2
                go_ret2
                exact ⟨by first | rfl | (simp; done) | (simp [*]; done), by repeat (first | exact Drawn0.refl _ | apply Drawn0.step)⟩

/-! ### assayerref1_TakeText: function 36 -/
def assayerref1_TakeText.f (k : Nat) (l0 : List Int) : Option (ByteArray × Int × Int) := (assayerref1_Take.f k l0 4).bind fun bt170 => (if bt170.2 = 0 then (if bt170.1 ≤ (IntKind.u64.wrap (wrap64 ((l0.length : Int) - 4))) then (if 4 ≤ (wrap64 (4 + (wrap64 (bt170.1)))) then (if (wrap64 (4 + (wrap64 (bt170.1)))) ≤ (l0.length : Int) then (some (strOfNums ((l0.take ((wrap64 (4 + (wrap64 (bt170.1)))) : Int).toNat).drop 4), wrap64 (4 + (wrap64 (bt170.1))), 0)) else (none)) else (none)) else (some ((⟨#[]⟩ : ByteArray), 0, 3))) else (some ((⟨#[]⟩ : ByteArray), 0, 3)))
theorem assayerref1_TakeText.mono : ∀ a0 k, LeO (assayerref1_TakeText.f k a0) (assayerref1_TakeText.f (k + 1) a0) := by
  intro a0 k
  unfold assayerref1_TakeText.f
  repeat' first
      | (with_reducible exact assayerref1_Take.mono _ _ _)
      | (with_reducible exact LeO.refl _)
      | (with_reducible exact LeO.none _)
      | (with_reducible refine LeO.ite ?_ ?_)
      | (with_reducible refine LeO.bind ?_ (fun _ => ?_))
      | exact assayerref1_Take.mono _ _ _
      | exact LeO.none _
      | refine LeO.ite ?_ ?_
      | refine LeO.bind ?_ (fun _ => ?_)
set_option maxHeartbeats 8000000 in
set_option maxRecDepth 100000 in
theorem assayerref1_TakeText.calls (k : Nat) (A0 : Option Addr) (c0 : Nat) (l0 : List Int) (r1 : ByteArray) (r2 : Int) (r3 : Int) (w : World) (hr0 : Kd.C (Kd.int .u8) w A0 l0.length l0) (hc0 : l0.length ≤ c0) (h : assayerref1_TakeText.f k l0 = some (r1, r2, r3)) :
    Calls Try.prog 36 #[.slice A0 l0.length c0] w fun e w' => e = .returned (.tuple #[.string r1, .int .i64 r2, .int .i64 r3]) ∧ Drawn0 w w' := by
  have HR0 := Aside0.mk hr0
  have HC0 := Aside0.mk hc0
  clear hr0 hc0
  have H : ((assayerref1_Take.f k l0 4).bind fun bt170 => (if bt170.2 = 0 then (if bt170.1 ≤ (IntKind.u64.wrap (wrap64 ((l0.length : Int) - 4))) then (if 4 ≤ (wrap64 (4 + (wrap64 (bt170.1)))) then (if (wrap64 (4 + (wrap64 (bt170.1)))) ≤ (l0.length : Int) then (some (strOfNums ((l0.take ((wrap64 (4 + (wrap64 (bt170.1)))) : Int).toNat).drop 4), wrap64 (4 + (wrap64 (bt170.1))), 0)) else (none)) else (none)) else (some ((⟨#[]⟩ : ByteArray), 0, 3))) else (some ((⟨#[]⟩ : ByteArray), 0, 3)))) = some (r1, r2, r3) := h
  clear h
  replace H := Option.bind_eq_some_iff.mp H
  obtain ⟨⟨t170, t171⟩, A20, H⟩ := H
  replace H : (if t171 = 0 then (if t170 ≤ (IntKind.u64.wrap (wrap64 ((l0.length : Int) - 4))) then (if 4 ≤ (wrap64 (4 + (wrap64 (t170)))) then (if (wrap64 (4 + (wrap64 (t170)))) ≤ (l0.length : Int) then (some (strOfNums ((l0.take ((wrap64 (4 + (wrap64 (t170)))) : Int).toNat).drop 4), wrap64 (4 + (wrap64 (t170))), 0)) else (none)) else (none)) else (some ((⟨#[]⟩ : ByteArray), 0, 3))) else (some ((⟨#[]⟩ : ByteArray), 0, 3))) = some (r1, r2, r3) := H
  have A2 := Aside0.mk A20
  clear A20
  by_cases c3 : t171 = 0
  · rw [if_pos c3] at H
    have c3b0 : (t171 == 0) = true := beq_iff_eq.mpr c3
    have c3b1 : (t171 != 0) = false := bne_eq_false_iff_eq.mpr c3
    clear c3
    by_cases c4 : t170 ≤ (IntKind.u64.wrap (wrap64 ((l0.length : Int) - 4)))
    · rw [if_pos c4] at H
      have c4b0 : decide (t170 ≤ (IntKind.u64.wrap (wrap64 ((l0.length : Int) - 4)))) = true := decide_eq_true c4
      clear c4
      by_cases c5 : 4 ≤ (wrap64 (4 + (wrap64 (t170))))
      · rw [if_pos c5] at H
        have c5b0 := eq_true c5
        have c5b1 : decide (4 ≤ (wrap64 (4 + (wrap64 (t170))))) = true := decide_eq_true c5
        by_cases c6 : (wrap64 (4 + (wrap64 (t170)))) ≤ (l0.length : Int)
        · rw [if_pos c6] at H
          have c6b0 := eq_true c6
          have c6b1 : decide ((wrap64 (4 + (wrap64 (t170)))) ≤ (l0.length : Int)) = true := decide_eq_true c6
          simp only [Option.some.injEq, Prod.mk.injEq] at H
          obtain ⟨rfl, rfl, rfl⟩ := H
          go_enter Try.func36, Try.ntmps36
          go_wp2_with (first | ((with_reducible refine gate_callee (f := 32) rfl ?_); refine goesL_ (some 10) rfl rfl Try.func32 (by kernel_rfl) rfl #[.slice A0 l0.length c0, .int .i64 4] rfl (by (try simp only [List.map_toArray, List.map_cons, List.map_nil]); first | done | rfl | (simp only [List.length_drop, List.length_take]; rfl)) ?_; (with_reducible refine (assayerref1_Take.calls k _ _ l0 4 t170 t171 _ ?side1 ?side2 A2.out).mono ?_); (case side1 => repeat (first | exact HR0.out | (with_reducible refine Kd.C_alloc ?_ _) | (with_reducible refine Kd.C_drewN ?_ _) | (with_reducible refine Kd.C_drew ?_))); (case side2 => exact HC0.out); rintro e w' ⟨rfl, ⟨nd, rfl⟩⟩; refine ⟨_, rfl, ?_⟩; obtain ⟨i07, hi07, _, hsz7, _⟩ := info_parts info5; obtain ⟨A7, hcut7, hA7, hC7⟩ := print_mid_of (P := Try.prog) (Value.int .u8) 0 24 5 .i64 .i64 Try.underlying24 hi07 hsz7 A0 c0 l0 4 (wrap64 (4 + (wrap64 (t170)))) (by omega) (by first | omega | exact of_decide_eq_true (by first | (with_reducible assumption) | assumption)) (of_decide_eq_true (by first | (with_reducible assumption) | assumption)) HC0.out; have HR172 := Aside0.mk (Kd.C_of_reads (h1 := fun _ => rfl) (hA7 _ (Kd.reads_of_C HR0.out))); have HC172 := Aside0.mk hC7; clear hA7 hC7 hi07 hsz7; have hcv8 := Kd.C_string (P := Try.prog) (A := A7) (c := (c0 - 4)) Try.underlying24 Try.underlying5 Try.underlying9 HR172.out; have hcvd172 := fun m_ : Nat => Kd.C_string (P := Try.prog) (A := A7) (c := (c0 - 4)) Try.underlying24 Try.underlying5 Try.underlying9 (Kd.C_drewN HR172.out m_); have hcve172 := hcvd172; (try simp only [List.length_drop, List.length_take, Int.reduceToNat] at hcve172); (try rw [Nat.min_eq_left (by omega)] at hcve172)))
          go_ret3
          exact ⟨by first | rfl | (simp; done) | (simp [*]; done), by repeat (first | exact Drawn0.refl _ | apply Drawn0.step)⟩
        · rw [if_neg c6] at H
          exact absurd H (by simp)
      · rw [if_neg c5] at H
        exact absurd H (by simp)
    · rw [if_neg c4] at H
      have c4b0 : decide (t170 ≤ (IntKind.u64.wrap (wrap64 ((l0.length : Int) - 4)))) = false := decide_eq_false c4
      clear c4
      simp only [Option.some.injEq, Prod.mk.injEq] at H
      obtain ⟨rfl, rfl, rfl⟩ := H
      go_enter Try.func36, Try.ntmps36
      go_wp2_with (first | ((with_reducible refine gate_callee (f := 32) rfl ?_); refine goesL_ (some 10) rfl rfl Try.func32 (by kernel_rfl) rfl #[.slice A0 l0.length c0, .int .i64 4] rfl (by (try simp only [List.map_toArray, List.map_cons, List.map_nil]); first | done | rfl | (simp only [List.length_drop, List.length_take]; rfl)) ?_; (with_reducible refine (assayerref1_Take.calls k _ _ l0 4 t170 t171 _ ?side1 ?side2 A2.out).mono ?_); (case side1 => repeat (first | exact HR0.out | (with_reducible refine Kd.C_alloc ?_ _) | (with_reducible refine Kd.C_drewN ?_ _) | (with_reducible refine Kd.C_drew ?_))); (case side2 => exact HC0.out); rintro e w' ⟨rfl, ⟨nd, rfl⟩⟩; refine ⟨_, rfl, ?_⟩))
      go_ret3
      exact ⟨by first | rfl | (simp; done) | (simp [*]; done), by repeat (first | exact Drawn0.refl _ | apply Drawn0.step)⟩
  · rw [if_neg c3] at H
    have c3b0 : (t171 == 0) = false := beq_eq_false_iff_ne.mpr c3
    have c3b1 : (t171 != 0) = true := bne_iff_ne.mpr c3
    simp only [Option.some.injEq, Prod.mk.injEq] at H
    obtain ⟨rfl, rfl, rfl⟩ := H
    go_enter Try.func36, Try.ntmps36
    go_wp2_with (first | ((with_reducible refine gate_callee (f := 32) rfl ?_); refine goesL_ (some 10) rfl rfl Try.func32 (by kernel_rfl) rfl #[.slice A0 l0.length c0, .int .i64 4] rfl (by (try simp only [List.map_toArray, List.map_cons, List.map_nil]); first | done | rfl | (simp only [List.length_drop, List.length_take]; rfl)) ?_; (with_reducible refine (assayerref1_Take.calls k _ _ l0 4 t170 t171 _ ?side1 ?side2 A2.out).mono ?_); (case side1 => repeat (first | exact HR0.out | (with_reducible refine Kd.C_alloc ?_ _) | (with_reducible refine Kd.C_drewN ?_ _) | (with_reducible refine Kd.C_drew ?_))); (case side2 => exact HC0.out); rintro e w' ⟨rfl, ⟨nd, rfl⟩⟩; refine ⟨_, rfl, ?_⟩))
    go_ret3
    exact ⟨by first | rfl | (simp; done) | (simp [*]; done), by repeat (first | exact Drawn0.refl _ | apply Drawn0.step)⟩

end Go.Proofs.Ythgimjbmjeidpaa.POctet
