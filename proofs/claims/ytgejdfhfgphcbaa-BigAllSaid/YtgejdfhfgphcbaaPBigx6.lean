-- Written by xprint.py, a program of this session, out of the translation, by way of the kit's printer. Lean checks it.
import Derived.Test.YtgejdfhfgphcbaaPBigx0
import Derived.Test.YtgejdfhfgphcbaaPBigx1
import Derived.Test.YtgejdfhfgphcbaaPBigx3
import Derived.Test.YtgejdfhfgphcbaaPBigx4
import Derived.Test.YtgejdfhfgphcbaaPBigx5
namespace Go.Proofs.Ytgejdfhfgphcbaa.PBig
open Go.RowKit Go.Proofs.YtgejdfhfgphcbaaW.PrintWords Go.Proofs.YtgejdfhfgphcbaaW.PrintLast Go.Proofs.YtgejdfhfgphcbaaW.PrintMore
attribute [local go_sem] max2_int min2_int max_two min_two max_three min_three max_four min_four   -- for this text's walks alone
set_option linter.unusedVariables false
set_option linter.unusedSimpArgs false

/-! ### assayerlaw3_begun: function 31 -/
def assayerlaw3_begun.f (k : Nat)  : Option (Bool) := (big_Of.f k 17).bind fun t282 => ((big_Of.f k 5).bind fun t285 => ((big_Div.f k t282 t285).bind fun bt288 => ((big_Of.f k 9).bind fun t295 => ((big_Of.f k 4).bind fun t298 => ((big_Sub.f k t295 t298).bind fun bt301 => (if bt288.2.2 = true then ((big_Low.f k bt288.1).bind fun t305 => (if t305 = 3 then ((big_Low.f k bt288.2.1).bind fun t306 => (if t306 = 2 then (if bt301.2 = true then ((big_Low.f k bt301.1).bind fun t307 => (if t307 = 5 then ((big_Ten.f k 3).bind fun t308 => ((big_Bits.f k t308).bind fun t311 => (if t311 = 10 then ((big_Of.f k 1).bind fun t312 => ((big_Of.f k 2).bind fun t315 => ((big_Cmp.f k t312 t315).bind fun t318 => (if t318 = (-1) then ((big_Of.f k 0).bind fun t319 => (if (t319.length : Int) = 0 then ((big_Of.f k 6).bind fun t322 => ((big_Of.f k 7).bind fun t325 => ((big_Mul.f k t322 t325).bind fun t328 => ((big_Low.f k t328).bind fun t331 => (some (t331 == 42)))))) else (some false))) else (some false))))) else (some false)))) else (some false))) else (some false)) else (some false))) else (some false))) else (some false)))))))
theorem assayerlaw3_begun.mono : ∀ k, LeO (assayerlaw3_begun.f k ) (assayerlaw3_begun.f (k + 1) ) := by
 intro  k
 unfold assayerlaw3_begun.f
 repeat' first
   | (with_reducible exact big_Bits.mono _ _)
   | (with_reducible exact big_Cmp.mono _ _ _)
   | (with_reducible exact big_Div.mono _ _ _)
   | (with_reducible exact big_Low.mono _ _)
   | (with_reducible exact big_Mul.mono _ _ _)
   | (with_reducible exact big_Of.mono _ _)
   | (with_reducible exact big_Sub.mono _ _ _)
   | (with_reducible exact big_Ten.mono _ _)
   | (with_reducible exact LeO.refl _)
   | (with_reducible exact LeO.none _)
   | (with_reducible refine LeO.ite ?_ ?_)
   | (with_reducible refine LeO.bind ?_ (fun _ => ?_))
   | exact big_Bits.mono _ _
   | exact big_Cmp.mono _ _ _
   | exact big_Div.mono _ _ _
   | exact big_Low.mono _ _
   | exact big_Mul.mono _ _ _
   | exact big_Of.mono _ _
   | exact big_Sub.mono _ _ _
   | exact big_Ten.mono _ _
   | exact LeO.none _
   | refine LeO.ite ?_ ?_
   | refine LeO.bind ?_ (fun _ => ?_)
set_option maxHeartbeats 8000000 in
set_option maxRecDepth 100000 in
theorem assayerlaw3_begun.calls (k : Nat)  (r : Bool) (w : World) (h : assayerlaw3_begun.f k  = some r) (hrt : r = true) :
  Calls Try.prog 31 #[] w fun e w' => e = .returned (.bool r) ∧ Below w.heap.size w w' := by
 have HB := Aside0.mk (Below.refl w.heap.size w)
 have H : ((big_Of.f k 17).bind fun t282 => ((big_Of.f k 5).bind fun t285 => ((big_Div.f k t282 t285).bind fun bt288 => ((big_Of.f k 9).bind fun t295 => ((big_Of.f k 4).bind fun t298 => ((big_Sub.f k t295 t298).bind fun bt301 => (if bt288.2.2 = true then ((big_Low.f k bt288.1).bind fun t305 => (if t305 = 3 then ((big_Low.f k bt288.2.1).bind fun t306 => (if t306 = 2 then (if bt301.2 = true then ((big_Low.f k bt301.1).bind fun t307 => (if t307 = 5 then ((big_Ten.f k 3).bind fun t308 => ((big_Bits.f k t308).bind fun t311 => (if t311 = 10 then ((big_Of.f k 1).bind fun t312 => ((big_Of.f k 2).bind fun t315 => ((big_Cmp.f k t312 t315).bind fun t318 => (if t318 = (-1) then ((big_Of.f k 0).bind fun t319 => (if (t319.length : Int) = 0 then ((big_Of.f k 6).bind fun t322 => ((big_Of.f k 7).bind fun t325 => ((big_Mul.f k t322 t325).bind fun t328 => ((big_Low.f k t328).bind fun t331 => (some (t331 == 42)))))) else (some false))) else (some false))))) else (some false)))) else (some false))) else (some false)) else (some false))) else (some false))) else (some false)))))))) = some r := h
 clear h
 replace H := Option.bind_eq_some_iff.mp H
 obtain ⟨t282, A10, H⟩ := H
 (try dsimp only at H)
 have A1 := Aside0.mk A10
 clear A10
 replace H := Option.bind_eq_some_iff.mp H
 obtain ⟨t285, A20, H⟩ := H
 (try dsimp only at H)
 have A2 := Aside0.mk A20
 clear A20
 replace H := Option.bind_eq_some_iff.mp H
 obtain ⟨⟨t288, t289, t290⟩, A30, H⟩ := H
 (try dsimp only at H)
 have A3 := Aside0.mk A30
 clear A30
 replace H := Option.bind_eq_some_iff.mp H
 obtain ⟨t295, A40, H⟩ := H
 (try dsimp only at H)
 have A4 := Aside0.mk A40
 clear A40
 replace H := Option.bind_eq_some_iff.mp H
 obtain ⟨t298, A50, H⟩ := H
 (try dsimp only at H)
 have A5 := Aside0.mk A50
 clear A50
 replace H := Option.bind_eq_some_iff.mp H
 obtain ⟨⟨t301, t302⟩, A60, H⟩ := H
 (try dsimp only at H)
 have A6 := Aside0.mk A60
 clear A60
 by_cases c7 : t290 = true
 ·subst c7
  have H1 : ((big_Low.f k t288).bind fun t305 => (if t305 = 3 then ((big_Low.f k t289).bind fun t306 => (if t306 = 2 then (if t302 = true then ((big_Low.f k t301).bind fun t307 => (if t307 = 5 then ((big_Ten.f k 3).bind fun t308 => ((big_Bits.f k t308).bind fun t311 => (if t311 = 10 then ((big_Of.f k 1).bind fun t312 => ((big_Of.f k 2).bind fun t315 => ((big_Cmp.f k t312 t315).bind fun t318 => (if t318 = (-1) then ((big_Of.f k 0).bind fun t319 => (if (t319.length : Int) = 0 then ((big_Of.f k 6).bind fun t322 => ((big_Of.f k 7).bind fun t325 => ((big_Mul.f k t322 t325).bind fun t328 => ((big_Low.f k t328).bind fun t331 => (some (t331 == 42)))))) else (some false))) else (some false))))) else (some false)))) else (some false))) else (some false)) else (some false))) else (some false))) = some r := by rw [if_pos rfl] at H; exact H
  clear H
  have H := H1
  clear H1
  replace H := Option.bind_eq_some_iff.mp H
  obtain ⟨t305, A80, H⟩ := H
  (try dsimp only at H)
  have A8 := Aside0.mk A80
  clear A80
  by_cases c9 : t305 = 3
  ·rw [if_pos c9] at H
   have c9b0 : (t305 == 3) = true := beq_iff_eq.mpr c9
   have c9b1 : (t305 != 3) = false := bne_eq_false_iff_eq.mpr c9
   clear c9
   replace H := Option.bind_eq_some_iff.mp H
   obtain ⟨t306, A100, H⟩ := H
   (try dsimp only at H)
   have A10 := Aside0.mk A100
   clear A100
   by_cases c11 : t306 = 2
   ·rw [if_pos c11] at H
    have c11b0 : (t306 == 2) = true := beq_iff_eq.mpr c11
    have c11b1 : (t306 != 2) = false := bne_eq_false_iff_eq.mpr c11
    clear c11
    by_cases c12 : t302 = true
    ·subst c12
     have H1 : ((big_Low.f k t301).bind fun t307 => (if t307 = 5 then ((big_Ten.f k 3).bind fun t308 => ((big_Bits.f k t308).bind fun t311 => (if t311 = 10 then ((big_Of.f k 1).bind fun t312 => ((big_Of.f k 2).bind fun t315 => ((big_Cmp.f k t312 t315).bind fun t318 => (if t318 = (-1) then ((big_Of.f k 0).bind fun t319 => (if (t319.length : Int) = 0 then ((big_Of.f k 6).bind fun t322 => ((big_Of.f k 7).bind fun t325 => ((big_Mul.f k t322 t325).bind fun t328 => ((big_Low.f k t328).bind fun t331 => (some (t331 == 42)))))) else (some false))) else (some false))))) else (some false)))) else (some false))) = some r := by rw [if_pos rfl] at H; exact H
     clear H
     have H := H1
     clear H1
     replace H := Option.bind_eq_some_iff.mp H
     obtain ⟨t307, A130, H⟩ := H
     (try dsimp only at H)
     have A13 := Aside0.mk A130
     clear A130
     by_cases c14 : t307 = 5
     ·rw [if_pos c14] at H
      have c14b0 : (t307 == 5) = true := beq_iff_eq.mpr c14
      have c14b1 : (t307 != 5) = false := bne_eq_false_iff_eq.mpr c14
      clear c14
      replace H := Option.bind_eq_some_iff.mp H
      obtain ⟨t308, A150, H⟩ := H
      (try dsimp only at H)
      have A15 := Aside0.mk A150
      clear A150
      replace H := Option.bind_eq_some_iff.mp H
      obtain ⟨t311, A160, H⟩ := H
      (try dsimp only at H)
      have A16 := Aside0.mk A160
      clear A160
      by_cases c17 : t311 = 10
      ·rw [if_pos c17] at H
       have c17b0 : (t311 == 10) = true := beq_iff_eq.mpr c17
       have c17b1 : (t311 != 10) = false := bne_eq_false_iff_eq.mpr c17
       clear c17
       replace H := Option.bind_eq_some_iff.mp H
       obtain ⟨t312, A180, H⟩ := H
       (try dsimp only at H)
       have A18 := Aside0.mk A180
       clear A180
       replace H := Option.bind_eq_some_iff.mp H
       obtain ⟨t315, A190, H⟩ := H
       (try dsimp only at H)
       have A19 := Aside0.mk A190
       clear A190
       replace H := Option.bind_eq_some_iff.mp H
       obtain ⟨t318, A200, H⟩ := H
       (try dsimp only at H)
       have A20 := Aside0.mk A200
       clear A200
       by_cases c21 : t318 = (-1)
       ·rw [if_pos c21] at H
        have c21b0 : (t318 == (-1)) = true := beq_iff_eq.mpr c21
        have c21b1 : (t318 != (-1)) = false := bne_eq_false_iff_eq.mpr c21
        clear c21
        replace H := Option.bind_eq_some_iff.mp H
        obtain ⟨t319, A220, H⟩ := H
        replace H : (if (t319.length : Int) = 0 then ((big_Of.f k 6).bind fun t322 => ((big_Of.f k 7).bind fun t325 => ((big_Mul.f k t322 t325).bind fun t328 => ((big_Low.f k t328).bind fun t331 => (some (t331 == 42)))))) else (some false)) = some r := H
        have A22 := Aside0.mk A220
        clear A220
        by_cases c23 : (t319.length : Int) = 0
        ·rw [if_pos c23] at H
         have c23b0 : ((t319.length : Int) == 0) = true := beq_iff_eq.mpr c23
         have c23b1 : ((t319.length : Int) != 0) = false := bne_eq_false_iff_eq.mpr c23
         clear c23
         replace H := Option.bind_eq_some_iff.mp H
         obtain ⟨t322, A240, H⟩ := H
         replace H : ((big_Of.f k 7).bind fun t325 => ((big_Mul.f k t322 t325).bind fun t328 => ((big_Low.f k t328).bind fun t331 => (some (t331 == 42))))) = some r := H
         have A24 := Aside0.mk A240
         clear A240
         replace H := Option.bind_eq_some_iff.mp H
         obtain ⟨t325, A250, H⟩ := H
         replace H : ((big_Mul.f k t322 t325).bind fun t328 => ((big_Low.f k t328).bind fun t331 => (some (t331 == 42)))) = some r := H
         have A25 := Aside0.mk A250
         clear A250
         replace H := Option.bind_eq_some_iff.mp H
         obtain ⟨t328, A260, H⟩ := H
         replace H : ((big_Low.f k t328).bind fun t331 => (some (t331 == 42))) = some r := H
         have A26 := Aside0.mk A260
         clear A260
         replace H := Option.bind_eq_some_iff.mp H
         obtain ⟨t331, A270, H⟩ := H
         replace H : (some (t331 == 42)) = some r := H
         have A27 := Aside0.mk A270
         clear A270
         obtain rfl := Option.some.inj H
         go_enter Try.func31, Try.ntmps31
         have tk0_ : True := trivial
         have tk1_ : True := trivial
         have tk2_ : True := trivial
         have tk3_ : True := trivial
         have tk4_ : True := trivial
         have tk5_ : True := trivial
         have tk6_ : True := trivial
         have tk7_ : True := trivial
         have tk8_ : True := trivial
         go_wp2_with (first | ((with_reducible refine gate_callee (f := 50) rfl ?_); refine goesL_ (some 7) rfl rfl Try.func50 (by kernel_rfl) rfl #[.int .u64 17] rfl (by (try simp only [List.map_toArray, List.map_cons, List.map_nil]); first | done | rfl) ?_; (with_reducible refine (big_Of.calls k 17 t282 _ A1.out).mono ?_); rintro e w28 ⟨v283, rfl, ho0, hb⟩; refine ⟨_, rfl, ?_⟩; have n0_ := Aside0.mk (Kd.R_lower ho0 (below_size HB.out)); have n1_ := Aside0.mk (below_step HB.out hb); clear HB; have HO284 := n0_; have HB := n1_; clear n0_ n1_; (try clear hb ho0)) | ((with_reducible refine gate_callee (f := 50) rfl ?_); refine goesL_ (some 8) rfl rfl Try.func50 (by kernel_rfl) rfl #[.int .u64 5] rfl (by (try simp only [List.map_toArray, List.map_cons, List.map_nil]); first | done | rfl) ?_; (with_reducible refine (big_Of.calls k 5 t285 _ A2.out).mono ?_); rintro e w29 ⟨v286, rfl, ho0, hb⟩; refine ⟨_, rfl, ?_⟩; have n0_ := Aside0.mk (Kd.R_elder' HO284.out (Kd.R_base ho0) hb); have n1_ := Aside0.mk (Kd.R_lower (Kd.R_new' ho0 (Kd.R_lt HO284.out)) (below_size HB.out)); have n2_ := Aside0.mk (below_step HB.out hb); clear HO284; clear HB; have HO284 := n0_; have HO287 := n1_; have HB := n2_; clear n0_ n1_ n2_; (try clear hb ho0); obtain ⟨Ao30, co30, eo30⟩ := Kd.R_slice HO284.out; subst eo30; obtain ⟨Ao31, co31, eo31⟩ := Kd.R_slice HO287.out; subst eo31) | ((with_reducible refine gate_callee (f := 36) rfl ?_); refine goesL_ (some 9) rfl rfl Try.func36 (by kernel_rfl) rfl #[.slice Ao30 t282.length co30, .slice Ao31 t285.length co31] rfl (by (try simp only [List.map_toArray, List.map_cons, List.map_nil]); first | done | rfl) ?_; (with_reducible refine (big_Div.calls k _ _ t282 _ _ t285 t288 t289 true _ ?side1 ?side2 ?side3 ?side4 A3.out).mono ?_); (case side1 => repeat (first | exact (Kd.R_reads' HO284.out).2.2 | (with_reducible refine Kd.C_alloc ?_ _) | (with_reducible refine Kd.C_drewN ?_ _) | (with_reducible refine Kd.C_drew ?_))); (case side2 => exact (Kd.R_reads' HO284.out).2.1); (case side3 => repeat (first | exact (Kd.R_reads' HO287.out).2.2 | (with_reducible refine Kd.C_alloc ?_ _) | (with_reducible refine Kd.C_drewN ?_ _) | (with_reducible refine Kd.C_drew ?_))); (case side4 => exact (Kd.R_reads' HO287.out).2.1); rintro e w32 ⟨v291, v293, rfl, ho0, ho1, hb⟩; refine ⟨_, rfl, ?_⟩; have n0_ := Aside0.mk (Kd.R_mono (Kd.R_told (Kd.R_told (Kd.R_old HO284.out hb) (Kd.R_base ho0)) (Kd.R_base ho1)) (fun _ h_ => h_.1)); have n1_ := Aside0.mk (Kd.R_mono (Kd.R_told (Kd.R_told (Kd.R_old HO287.out hb) (Kd.R_base ho0)) (Kd.R_base ho1)) (fun _ h_ => h_.1)); have n2_ := Aside0.mk (Kd.R_lower (Kd.R_new' (Kd.R_new' ho0 (Kd.R_lt HO284.out)) (Kd.R_lt HO287.out)) (below_size HB.out)); have n3_ := Aside0.mk (Kd.R_lower (Kd.R_new' (Kd.R_new' ho1 (Kd.R_lt HO284.out)) (Kd.R_lt HO287.out)) (below_size HB.out)); have n4_ := Aside0.mk (below_step HB.out hb); clear HO284; clear HO287; clear HB; have HO284 := n0_; have HO287 := n1_; have HO292 := n2_; have HO294 := n3_; have HB := n4_; clear n0_ n1_ n2_ n3_ n4_; (try clear hb ho0); (try clear ho1)) | ((with_reducible refine gate_callee (f := 50) rfl ?_); refine goesL_ (some 14) rfl rfl Try.func50 (by kernel_rfl) rfl #[.int .u64 9] rfl (by (try simp only [List.map_toArray, List.map_cons, List.map_nil]); first | done | rfl) ?_; (with_reducible refine (big_Of.calls k 9 t295 _ A4.out).mono ?_); rintro e w33 ⟨v296, rfl, ho0, hb⟩; refine ⟨_, rfl, ?_⟩; have n0_ := Aside0.mk (Kd.R_elder' HO284.out (Kd.R_base ho0) hb); have n1_ := Aside0.mk (Kd.R_elder' HO287.out (Kd.R_base ho0) hb); have n2_ := Aside0.mk (Kd.R_elder' HO292.out (Kd.R_base ho0) hb); have n3_ := Aside0.mk (Kd.R_elder' HO294.out (Kd.R_base ho0) hb); have n4_ := Aside0.mk (Kd.R_lower (Kd.R_new' (Kd.R_new' (Kd.R_new' (Kd.R_new' ho0 (Kd.R_lt HO284.out)) (Kd.R_lt HO287.out)) (Kd.R_lt HO292.out)) (Kd.R_lt HO294.out)) (below_size HB.out)); have n5_ := Aside0.mk (below_step HB.out hb); clear HO284; clear HO287; clear HO292; clear HO294; clear HB; have HO284 := n0_; have HO287 := n1_; have HO292 := n2_; have HO294 := n3_; have HO297 := n4_; have HB := n5_; clear n0_ n1_ n2_ n3_ n4_ n5_; (try clear hb ho0)) | ((with_reducible refine gate_callee (f := 50) rfl ?_); refine goesL_ (some 15) rfl rfl Try.func50 (by kernel_rfl) rfl #[.int .u64 4] rfl (by (try simp only [List.map_toArray, List.map_cons, List.map_nil]); first | done | rfl) ?_; (with_reducible refine (big_Of.calls k 4 t298 _ A5.out).mono ?_); rintro e w34 ⟨v299, rfl, ho0, hb⟩; refine ⟨_, rfl, ?_⟩; have n0_ := Aside0.mk (Kd.R_elder' HO284.out (Kd.R_base ho0) hb); have n1_ := Aside0.mk (Kd.R_elder' HO287.out (Kd.R_base ho0) hb); have n2_ := Aside0.mk (Kd.R_elder' HO292.out (Kd.R_base ho0) hb); have n3_ := Aside0.mk (Kd.R_elder' HO294.out (Kd.R_base ho0) hb); have n4_ := Aside0.mk (Kd.R_elder' HO297.out (Kd.R_base ho0) hb); have n5_ := Aside0.mk (Kd.R_lower (Kd.R_new' (Kd.R_new' (Kd.R_new' (Kd.R_new' (Kd.R_new' ho0 (Kd.R_lt HO284.out)) (Kd.R_lt HO287.out)) (Kd.R_lt HO292.out)) (Kd.R_lt HO294.out)) (Kd.R_lt HO297.out)) (below_size HB.out)); have n6_ := Aside0.mk (below_step HB.out hb); clear HO284; clear HO287; clear HO292; clear HO294; clear HO297; clear HB; have HO284 := n0_; have HO287 := n1_; have HO292 := n2_; have HO294 := n3_; have HO297 := n4_; have HO300 := n5_; have HB := n6_; clear n0_ n1_ n2_ n3_ n4_ n5_ n6_; (try clear hb ho0); obtain ⟨Ao35, co35, eo35⟩ := Kd.R_slice HO297.out; subst eo35; obtain ⟨Ao36, co36, eo36⟩ := Kd.R_slice HO300.out; subst eo36) | ((with_reducible refine gate_callee (f := 34) rfl ?_); refine goesL_ (some 16) rfl rfl Try.func34 (by kernel_rfl) rfl #[.slice Ao35 t295.length co35, .slice Ao36 t298.length co36] rfl (by (try simp only [List.map_toArray, List.map_cons, List.map_nil]); first | done | rfl) ?_; (with_reducible refine (big_Sub.calls k _ _ t295 _ _ t298 t301 true _ ?side1 ?side2 ?side3 ?side4 A6.out).mono ?_); (case side1 => repeat (first | exact (Kd.R_reads' HO297.out).2.2 | (with_reducible refine Kd.C_alloc ?_ _) | (with_reducible refine Kd.C_drewN ?_ _) | (with_reducible refine Kd.C_drew ?_))); (case side2 => exact (Kd.R_reads' HO297.out).2.1); (case side3 => repeat (first | exact (Kd.R_reads' HO300.out).2.2 | (with_reducible refine Kd.C_alloc ?_ _) | (with_reducible refine Kd.C_drewN ?_ _) | (with_reducible refine Kd.C_drew ?_))); (case side4 => exact (Kd.R_reads' HO300.out).2.1); rintro e w37 ⟨v303, rfl, ho0, hb⟩; refine ⟨_, rfl, ?_⟩; have n0_ := Aside0.mk (Kd.R_elder' HO284.out (Kd.R_base ho0) hb); have n1_ := Aside0.mk (Kd.R_elder' HO287.out (Kd.R_base ho0) hb); have n2_ := Aside0.mk (Kd.R_elder' HO292.out (Kd.R_base ho0) hb); have n3_ := Aside0.mk (Kd.R_elder' HO294.out (Kd.R_base ho0) hb); have n4_ := Aside0.mk (Kd.R_elder' HO297.out (Kd.R_base ho0) hb); have n5_ := Aside0.mk (Kd.R_elder' HO300.out (Kd.R_base ho0) hb); have n6_ := Aside0.mk (Kd.R_lower (Kd.R_new' (Kd.R_new' (Kd.R_new' (Kd.R_new' (Kd.R_new' (Kd.R_new' ho0 (Kd.R_lt HO284.out)) (Kd.R_lt HO287.out)) (Kd.R_lt HO292.out)) (Kd.R_lt HO294.out)) (Kd.R_lt HO297.out)) (Kd.R_lt HO300.out)) (below_size HB.out)); have n7_ := Aside0.mk (below_step HB.out hb); clear HO284; clear HO287; clear HO292; clear HO294; clear HO297; clear HO300; clear HB; have HO284 := n0_; have HO287 := n1_; have HO292 := n2_; have HO294 := n3_; have HO297 := n4_; have HO300 := n5_; have HO304 := n6_; have HB := n7_; clear n0_ n1_ n2_ n3_ n4_ n5_ n6_ n7_; (try clear hb ho0); obtain ⟨Ao38, co38, eo38⟩ := Kd.R_slice HO292.out; subst eo38) | (clear tk0_; go_at_call 48; (with_reducible refine (big_Low.calls k _ _ t288 t305 _ ?side1 ?side2 A8.out).mono ?_); (case side1 => repeat (first | exact (Kd.R_reads' HO292.out).2.2 | (with_reducible refine Kd.C_alloc ?_ _) | (with_reducible refine Kd.C_drewN ?_ _) | (with_reducible refine Kd.C_drew ?_))); (case side2 => exact (Kd.R_reads' HO292.out).2.1); rintro e w39 ⟨rfl, hb⟩; have n0_ := Aside0.mk (Kd.R_below HO284.out hb); have n1_ := Aside0.mk (Kd.R_below HO287.out hb); have n2_ := Aside0.mk (Kd.R_below HO292.out hb); have n3_ := Aside0.mk (Kd.R_below HO294.out hb); have n4_ := Aside0.mk (Kd.R_below HO297.out hb); have n5_ := Aside0.mk (Kd.R_below HO300.out hb); have n6_ := Aside0.mk (Kd.R_below HO304.out hb); have n7_ := Aside0.mk (below_step HB.out hb); clear HO284; clear HO287; clear HO292; clear HO294; clear HO297; clear HO300; clear HO304; clear HB; have HO284 := n0_; have HO287 := n1_; have HO292 := n2_; have HO294 := n3_; have HO297 := n4_; have HO300 := n5_; have HO304 := n6_; have HB := n7_; clear n0_ n1_ n2_ n3_ n4_ n5_ n6_ n7_; (try clear hb); (try clear hb2); (try clear hk); (try clear hi); obtain ⟨Ao40, co40, eo40⟩ := Kd.R_slice HO294.out; subst eo40) | (clear tk1_; go_at_call 48; (with_reducible refine (big_Low.calls k _ _ t289 t306 _ ?side1 ?side2 A10.out).mono ?_); (case side1 => repeat (first | exact (Kd.R_reads' HO294.out).2.2 | (with_reducible refine Kd.C_alloc ?_ _) | (with_reducible refine Kd.C_drewN ?_ _) | (with_reducible refine Kd.C_drew ?_))); (case side2 => exact (Kd.R_reads' HO294.out).2.1); rintro e w41 ⟨rfl, hb⟩; have n0_ := Aside0.mk (Kd.R_below HO284.out hb); have n1_ := Aside0.mk (Kd.R_below HO287.out hb); have n2_ := Aside0.mk (Kd.R_below HO292.out hb); have n3_ := Aside0.mk (Kd.R_below HO294.out hb); have n4_ := Aside0.mk (Kd.R_below HO297.out hb); have n5_ := Aside0.mk (Kd.R_below HO300.out hb); have n6_ := Aside0.mk (Kd.R_below HO304.out hb); have n7_ := Aside0.mk (below_step HB.out hb); clear HO284; clear HO287; clear HO292; clear HO294; clear HO297; clear HO300; clear HO304; clear HB; have HO284 := n0_; have HO287 := n1_; have HO292 := n2_; have HO294 := n3_; have HO297 := n4_; have HO300 := n5_; have HO304 := n6_; have HB := n7_; clear n0_ n1_ n2_ n3_ n4_ n5_ n6_ n7_; (try clear hb); (try clear hb2); (try clear hk); (try clear hi); obtain ⟨Ao42, co42, eo42⟩ := Kd.R_slice HO304.out; subst eo42) | (clear tk2_; go_at_call 48; (with_reducible refine (big_Low.calls k _ _ t301 t307 _ ?side1 ?side2 A13.out).mono ?_); (case side1 => repeat (first | exact (Kd.R_reads' HO304.out).2.2 | (with_reducible refine Kd.C_alloc ?_ _) | (with_reducible refine Kd.C_drewN ?_ _) | (with_reducible refine Kd.C_drew ?_))); (case side2 => exact (Kd.R_reads' HO304.out).2.1); rintro e w43 ⟨rfl, hb⟩; have n0_ := Aside0.mk (Kd.R_below HO284.out hb); have n1_ := Aside0.mk (Kd.R_below HO287.out hb); have n2_ := Aside0.mk (Kd.R_below HO292.out hb); have n3_ := Aside0.mk (Kd.R_below HO294.out hb); have n4_ := Aside0.mk (Kd.R_below HO297.out hb); have n5_ := Aside0.mk (Kd.R_below HO300.out hb); have n6_ := Aside0.mk (Kd.R_below HO304.out hb); have n7_ := Aside0.mk (below_step HB.out hb); clear HO284; clear HO287; clear HO292; clear HO294; clear HO297; clear HO300; clear HO304; clear HB; have HO284 := n0_; have HO287 := n1_; have HO292 := n2_; have HO294 := n3_; have HO297 := n4_; have HO300 := n5_; have HO304 := n6_; have HB := n7_; clear n0_ n1_ n2_ n3_ n4_ n5_ n6_ n7_; (try clear hb); (try clear hb2); (try clear hk); (try clear hi)) | (go_at_call 73; (with_reducible refine (big_Ten.calls k 3 t308 _ A15.out).mono ?_); rintro e w44 ⟨v309, rfl, ho0, hb⟩; have n0_ := Aside0.mk (Kd.R_elder' HO284.out (Kd.R_base ho0) hb); have n1_ := Aside0.mk (Kd.R_elder' HO287.out (Kd.R_base ho0) hb); have n2_ := Aside0.mk (Kd.R_elder' HO292.out (Kd.R_base ho0) hb); have n3_ := Aside0.mk (Kd.R_elder' HO294.out (Kd.R_base ho0) hb); have n4_ := Aside0.mk (Kd.R_elder' HO297.out (Kd.R_base ho0) hb); have n5_ := Aside0.mk (Kd.R_elder' HO300.out (Kd.R_base ho0) hb); have n6_ := Aside0.mk (Kd.R_elder' HO304.out (Kd.R_base ho0) hb); have n7_ := Aside0.mk (Kd.R_lower (Kd.R_new' (Kd.R_new' (Kd.R_new' (Kd.R_new' (Kd.R_new' (Kd.R_new' (Kd.R_new' ho0 (Kd.R_lt HO284.out)) (Kd.R_lt HO287.out)) (Kd.R_lt HO292.out)) (Kd.R_lt HO294.out)) (Kd.R_lt HO297.out)) (Kd.R_lt HO300.out)) (Kd.R_lt HO304.out)) (below_size HB.out)); have n8_ := Aside0.mk (below_step HB.out hb); clear HO284; clear HO287; clear HO292; clear HO294; clear HO297; clear HO300; clear HO304; clear HB; have HO284 := n0_; have HO287 := n1_; have HO292 := n2_; have HO294 := n3_; have HO297 := n4_; have HO300 := n5_; have HO304 := n6_; have HO310 := n7_; have HB := n8_; clear n0_ n1_ n2_ n3_ n4_ n5_ n6_ n7_ n8_; (try clear hb ho0); obtain ⟨Ao45, co45, eo45⟩ := Kd.R_slice HO310.out; subst eo45) | (go_at_call 46; (with_reducible refine (big_Bits.calls k _ _ t308 t311 _ ?side1 ?side2 A16.out).mono ?_); (case side1 => repeat (first | exact (Kd.R_reads' HO310.out).2.2 | (with_reducible refine Kd.C_alloc ?_ _) | (with_reducible refine Kd.C_drewN ?_ _) | (with_reducible refine Kd.C_drew ?_))); (case side2 => exact (Kd.R_reads' HO310.out).2.1); rintro e w46 ⟨rfl, hb⟩; have n0_ := Aside0.mk (Kd.R_below HO284.out hb); have n1_ := Aside0.mk (Kd.R_below HO287.out hb); have n2_ := Aside0.mk (Kd.R_below HO292.out hb); have n3_ := Aside0.mk (Kd.R_below HO294.out hb); have n4_ := Aside0.mk (Kd.R_below HO297.out hb); have n5_ := Aside0.mk (Kd.R_below HO300.out hb); have n6_ := Aside0.mk (Kd.R_below HO304.out hb); have n7_ := Aside0.mk (Kd.R_below HO310.out hb); have n8_ := Aside0.mk (below_step HB.out hb); clear HO284; clear HO287; clear HO292; clear HO294; clear HO297; clear HO300; clear HO304; clear HO310; clear HB; have HO284 := n0_; have HO287 := n1_; have HO292 := n2_; have HO294 := n3_; have HO297 := n4_; have HO300 := n5_; have HO304 := n6_; have HO310 := n7_; have HB := n8_; clear n0_ n1_ n2_ n3_ n4_ n5_ n6_ n7_ n8_; (try clear hb); (try clear hb2); (try clear hk); (try clear hi)) | (clear tk3_; go_at_call 50; (with_reducible refine (big_Of.calls k 1 t312 _ A18.out).mono ?_); rintro e w47 ⟨v313, rfl, ho0, hb⟩; have n0_ := Aside0.mk (Kd.R_elder' HO284.out (Kd.R_base ho0) hb); have n1_ := Aside0.mk (Kd.R_elder' HO287.out (Kd.R_base ho0) hb); have n2_ := Aside0.mk (Kd.R_elder' HO292.out (Kd.R_base ho0) hb); have n3_ := Aside0.mk (Kd.R_elder' HO294.out (Kd.R_base ho0) hb); have n4_ := Aside0.mk (Kd.R_elder' HO297.out (Kd.R_base ho0) hb); have n5_ := Aside0.mk (Kd.R_elder' HO300.out (Kd.R_base ho0) hb); have n6_ := Aside0.mk (Kd.R_elder' HO304.out (Kd.R_base ho0) hb); have n7_ := Aside0.mk (Kd.R_elder' HO310.out (Kd.R_base ho0) hb); have n8_ := Aside0.mk (Kd.R_lower (Kd.R_new' (Kd.R_new' (Kd.R_new' (Kd.R_new' (Kd.R_new' (Kd.R_new' (Kd.R_new' (Kd.R_new' ho0 (Kd.R_lt HO284.out)) (Kd.R_lt HO287.out)) (Kd.R_lt HO292.out)) (Kd.R_lt HO294.out)) (Kd.R_lt HO297.out)) (Kd.R_lt HO300.out)) (Kd.R_lt HO304.out)) (Kd.R_lt HO310.out)) (below_size HB.out)); have n9_ := Aside0.mk (below_step HB.out hb); clear HO284; clear HO287; clear HO292; clear HO294; clear HO297; clear HO300; clear HO304; clear HO310; clear HB; have HO284 := n0_; have HO287 := n1_; have HO292 := n2_; have HO294 := n3_; have HO297 := n4_; have HO300 := n5_; have HO304 := n6_; have HO310 := n7_; have HO314 := n8_; have HB := n9_; clear n0_ n1_ n2_ n3_ n4_ n5_ n6_ n7_ n8_ n9_; (try clear hb ho0)) | (clear tk4_; go_at_call 50; (with_reducible refine (big_Of.calls k 2 t315 _ A19.out).mono ?_); rintro e w48 ⟨v316, rfl, ho0, hb⟩; have n0_ := Aside0.mk (Kd.R_elder' HO284.out (Kd.R_base ho0) hb); have n1_ := Aside0.mk (Kd.R_elder' HO287.out (Kd.R_base ho0) hb); have n2_ := Aside0.mk (Kd.R_elder' HO292.out (Kd.R_base ho0) hb); have n3_ := Aside0.mk (Kd.R_elder' HO294.out (Kd.R_base ho0) hb); have n4_ := Aside0.mk (Kd.R_elder' HO297.out (Kd.R_base ho0) hb); have n5_ := Aside0.mk (Kd.R_elder' HO300.out (Kd.R_base ho0) hb); have n6_ := Aside0.mk (Kd.R_elder' HO304.out (Kd.R_base ho0) hb); have n7_ := Aside0.mk (Kd.R_elder' HO310.out (Kd.R_base ho0) hb); have n8_ := Aside0.mk (Kd.R_elder' HO314.out (Kd.R_base ho0) hb); have n9_ := Aside0.mk (Kd.R_lower (Kd.R_new' (Kd.R_new' (Kd.R_new' (Kd.R_new' (Kd.R_new' (Kd.R_new' (Kd.R_new' (Kd.R_new' (Kd.R_new' ho0 (Kd.R_lt HO284.out)) (Kd.R_lt HO287.out)) (Kd.R_lt HO292.out)) (Kd.R_lt HO294.out)) (Kd.R_lt HO297.out)) (Kd.R_lt HO300.out)) (Kd.R_lt HO304.out)) (Kd.R_lt HO310.out)) (Kd.R_lt HO314.out)) (below_size HB.out)); have n10_ := Aside0.mk (below_step HB.out hb); clear HO284; clear HO287; clear HO292; clear HO294; clear HO297; clear HO300; clear HO304; clear HO310; clear HO314; clear HB; have HO284 := n0_; have HO287 := n1_; have HO292 := n2_; have HO294 := n3_; have HO297 := n4_; have HO300 := n5_; have HO304 := n6_; have HO310 := n7_; have HO314 := n8_; have HO317 := n9_; have HB := n10_; clear n0_ n1_ n2_ n3_ n4_ n5_ n6_ n7_ n8_ n9_ n10_; (try clear hb ho0); obtain ⟨Ao49, co49, eo49⟩ := Kd.R_slice HO314.out; subst eo49; obtain ⟨Ao50, co50, eo50⟩ := Kd.R_slice HO317.out; subst eo50) | (go_at_call 42; (with_reducible refine (big_Cmp.calls k _ _ t312 _ _ t315 t318 _ ?side1 ?side2 ?side3 ?side4 A20.out).mono ?_); (case side1 => repeat (first | exact (Kd.R_reads' HO314.out).2.2 | (with_reducible refine Kd.C_alloc ?_ _) | (with_reducible refine Kd.C_drewN ?_ _) | (with_reducible refine Kd.C_drew ?_))); (case side2 => exact (Kd.R_reads' HO314.out).2.1); (case side3 => repeat (first | exact (Kd.R_reads' HO317.out).2.2 | (with_reducible refine Kd.C_alloc ?_ _) | (with_reducible refine Kd.C_drewN ?_ _) | (with_reducible refine Kd.C_drew ?_))); (case side4 => exact (Kd.R_reads' HO317.out).2.1); rintro e w51 ⟨rfl, hb⟩; have n0_ := Aside0.mk (Kd.R_below HO284.out hb); have n1_ := Aside0.mk (Kd.R_below HO287.out hb); have n2_ := Aside0.mk (Kd.R_below HO292.out hb); have n3_ := Aside0.mk (Kd.R_below HO294.out hb); have n4_ := Aside0.mk (Kd.R_below HO297.out hb); have n5_ := Aside0.mk (Kd.R_below HO300.out hb); have n6_ := Aside0.mk (Kd.R_below HO304.out hb); have n7_ := Aside0.mk (Kd.R_below HO310.out hb); have n8_ := Aside0.mk (Kd.R_below HO314.out hb); have n9_ := Aside0.mk (Kd.R_below HO317.out hb); have n10_ := Aside0.mk (below_step HB.out hb); clear HO284; clear HO287; clear HO292; clear HO294; clear HO297; clear HO300; clear HO304; clear HO310; clear HO314; clear HO317; clear HB; have HO284 := n0_; have HO287 := n1_; have HO292 := n2_; have HO294 := n3_; have HO297 := n4_; have HO300 := n5_; have HO304 := n6_; have HO310 := n7_; have HO314 := n8_; have HO317 := n9_; have HB := n10_; clear n0_ n1_ n2_ n3_ n4_ n5_ n6_ n7_ n8_ n9_ n10_; (try clear hb); (try clear hb2); (try clear hk); (try clear hi)) | (clear tk5_; go_at_call 50; (with_reducible refine (big_Of.calls k 0 t319 _ A22.out).mono ?_); rintro e w52 ⟨v320, rfl, ho0, hb⟩; have n0_ := Aside0.mk (Kd.R_elder' HO284.out (Kd.R_base ho0) hb); have n1_ := Aside0.mk (Kd.R_elder' HO287.out (Kd.R_base ho0) hb); have n2_ := Aside0.mk (Kd.R_elder' HO292.out (Kd.R_base ho0) hb); have n3_ := Aside0.mk (Kd.R_elder' HO294.out (Kd.R_base ho0) hb); have n4_ := Aside0.mk (Kd.R_elder' HO297.out (Kd.R_base ho0) hb); have n5_ := Aside0.mk (Kd.R_elder' HO300.out (Kd.R_base ho0) hb); have n6_ := Aside0.mk (Kd.R_elder' HO304.out (Kd.R_base ho0) hb); have n7_ := Aside0.mk (Kd.R_elder' HO310.out (Kd.R_base ho0) hb); have n8_ := Aside0.mk (Kd.R_elder' HO314.out (Kd.R_base ho0) hb); have n9_ := Aside0.mk (Kd.R_elder' HO317.out (Kd.R_base ho0) hb); have n10_ := Aside0.mk (Kd.R_lower (Kd.R_new' (Kd.R_new' (Kd.R_new' (Kd.R_new' (Kd.R_new' (Kd.R_new' (Kd.R_new' (Kd.R_new' (Kd.R_new' (Kd.R_new' ho0 (Kd.R_lt HO284.out)) (Kd.R_lt HO287.out)) (Kd.R_lt HO292.out)) (Kd.R_lt HO294.out)) (Kd.R_lt HO297.out)) (Kd.R_lt HO300.out)) (Kd.R_lt HO304.out)) (Kd.R_lt HO310.out)) (Kd.R_lt HO314.out)) (Kd.R_lt HO317.out)) (below_size HB.out)); have n11_ := Aside0.mk (below_step HB.out hb); clear HO284; clear HO287; clear HO292; clear HO294; clear HO297; clear HO300; clear HO304; clear HO310; clear HO314; clear HO317; clear HB; have HO284 := n0_; have HO287 := n1_; have HO292 := n2_; have HO294 := n3_; have HO297 := n4_; have HO300 := n5_; have HO304 := n6_; have HO310 := n7_; have HO314 := n8_; have HO317 := n9_; have HO321 := n10_; have HB := n11_; clear n0_ n1_ n2_ n3_ n4_ n5_ n6_ n7_ n8_ n9_ n10_ n11_; (try clear hb ho0); obtain ⟨Ao53, co53, eo53⟩ := Kd.R_slice HO321.out; subst eo53) | (clear tk6_; go_at_call 50; (with_reducible refine (big_Of.calls k 6 t322 _ A24.out).mono ?_); rintro e w54 ⟨v323, rfl, ho0, hb⟩; have n0_ := Aside0.mk (Kd.R_elder' HO284.out (Kd.R_base ho0) hb); have n1_ := Aside0.mk (Kd.R_elder' HO287.out (Kd.R_base ho0) hb); have n2_ := Aside0.mk (Kd.R_elder' HO292.out (Kd.R_base ho0) hb); have n3_ := Aside0.mk (Kd.R_elder' HO294.out (Kd.R_base ho0) hb); have n4_ := Aside0.mk (Kd.R_elder' HO297.out (Kd.R_base ho0) hb); have n5_ := Aside0.mk (Kd.R_elder' HO300.out (Kd.R_base ho0) hb); have n6_ := Aside0.mk (Kd.R_elder' HO304.out (Kd.R_base ho0) hb); have n7_ := Aside0.mk (Kd.R_elder' HO310.out (Kd.R_base ho0) hb); have n8_ := Aside0.mk (Kd.R_elder' HO314.out (Kd.R_base ho0) hb); have n9_ := Aside0.mk (Kd.R_elder' HO317.out (Kd.R_base ho0) hb); have n10_ := Aside0.mk (Kd.R_elder' HO321.out (Kd.R_base ho0) hb); have n11_ := Aside0.mk (Kd.R_lower (Kd.R_new' (Kd.R_new' (Kd.R_new' (Kd.R_new' (Kd.R_new' (Kd.R_new' (Kd.R_new' (Kd.R_new' (Kd.R_new' (Kd.R_new' (Kd.R_new' ho0 (Kd.R_lt HO284.out)) (Kd.R_lt HO287.out)) (Kd.R_lt HO292.out)) (Kd.R_lt HO294.out)) (Kd.R_lt HO297.out)) (Kd.R_lt HO300.out)) (Kd.R_lt HO304.out)) (Kd.R_lt HO310.out)) (Kd.R_lt HO314.out)) (Kd.R_lt HO317.out)) (Kd.R_lt HO321.out)) (below_size HB.out)); have n12_ := Aside0.mk (below_step HB.out hb); clear HO284; clear HO287; clear HO292; clear HO294; clear HO297; clear HO300; clear HO304; clear HO310; clear HO314; clear HO317; clear HO321; clear HB; have HO284 := n0_; have HO287 := n1_; have HO292 := n2_; have HO294 := n3_; have HO297 := n4_; have HO300 := n5_; have HO304 := n6_; have HO310 := n7_; have HO314 := n8_; have HO317 := n9_; have HO321 := n10_; have HO324 := n11_; have HB := n12_; clear n0_ n1_ n2_ n3_ n4_ n5_ n6_ n7_ n8_ n9_ n10_ n11_ n12_; (try clear hb ho0)) | (clear tk7_; go_at_call 50; (with_reducible refine (big_Of.calls k 7 t325 _ A25.out).mono ?_); rintro e w55 ⟨v326, rfl, ho0, hb⟩; have n0_ := Aside0.mk (Kd.R_elder' HO284.out (Kd.R_base ho0) hb); have n1_ := Aside0.mk (Kd.R_elder' HO287.out (Kd.R_base ho0) hb); have n2_ := Aside0.mk (Kd.R_elder' HO292.out (Kd.R_base ho0) hb); have n3_ := Aside0.mk (Kd.R_elder' HO294.out (Kd.R_base ho0) hb); have n4_ := Aside0.mk (Kd.R_elder' HO297.out (Kd.R_base ho0) hb); have n5_ := Aside0.mk (Kd.R_elder' HO300.out (Kd.R_base ho0) hb); have n6_ := Aside0.mk (Kd.R_elder' HO304.out (Kd.R_base ho0) hb); have n7_ := Aside0.mk (Kd.R_elder' HO310.out (Kd.R_base ho0) hb); have n8_ := Aside0.mk (Kd.R_elder' HO314.out (Kd.R_base ho0) hb); have n9_ := Aside0.mk (Kd.R_elder' HO317.out (Kd.R_base ho0) hb); have n10_ := Aside0.mk (Kd.R_elder' HO321.out (Kd.R_base ho0) hb); have n11_ := Aside0.mk (Kd.R_elder' HO324.out (Kd.R_base ho0) hb); have n12_ := Aside0.mk (Kd.R_lower (Kd.R_new' (Kd.R_new' (Kd.R_new' (Kd.R_new' (Kd.R_new' (Kd.R_new' (Kd.R_new' (Kd.R_new' (Kd.R_new' (Kd.R_new' (Kd.R_new' (Kd.R_new' ho0 (Kd.R_lt HO284.out)) (Kd.R_lt HO287.out)) (Kd.R_lt HO292.out)) (Kd.R_lt HO294.out)) (Kd.R_lt HO297.out)) (Kd.R_lt HO300.out)) (Kd.R_lt HO304.out)) (Kd.R_lt HO310.out)) (Kd.R_lt HO314.out)) (Kd.R_lt HO317.out)) (Kd.R_lt HO321.out)) (Kd.R_lt HO324.out)) (below_size HB.out)); have n13_ := Aside0.mk (below_step HB.out hb); clear HO284; clear HO287; clear HO292; clear HO294; clear HO297; clear HO300; clear HO304; clear HO310; clear HO314; clear HO317; clear HO321; clear HO324; clear HB; have HO284 := n0_; have HO287 := n1_; have HO292 := n2_; have HO294 := n3_; have HO297 := n4_; have HO300 := n5_; have HO304 := n6_; have HO310 := n7_; have HO314 := n8_; have HO317 := n9_; have HO321 := n10_; have HO324 := n11_; have HO327 := n12_; have HB := n13_; clear n0_ n1_ n2_ n3_ n4_ n5_ n6_ n7_ n8_ n9_ n10_ n11_ n12_ n13_; (try clear hb ho0); obtain ⟨Ao56, co56, eo56⟩ := Kd.R_slice HO324.out; subst eo56; obtain ⟨Ao57, co57, eo57⟩ := Kd.R_slice HO327.out; subst eo57) | (go_at_call 40; (with_reducible refine (big_Mul.calls k _ _ t322 _ _ t325 t328 _ ?side1 ?side2 ?side3 ?side4 A26.out).mono ?_); (case side1 => repeat (first | exact (Kd.R_reads' HO324.out).2.2 | (with_reducible refine Kd.C_alloc ?_ _) | (with_reducible refine Kd.C_drewN ?_ _) | (with_reducible refine Kd.C_drew ?_))); (case side2 => exact (Kd.R_reads' HO324.out).2.1); (case side3 => repeat (first | exact (Kd.R_reads' HO327.out).2.2 | (with_reducible refine Kd.C_alloc ?_ _) | (with_reducible refine Kd.C_drewN ?_ _) | (with_reducible refine Kd.C_drew ?_))); (case side4 => exact (Kd.R_reads' HO327.out).2.1); rintro e w58 ⟨v329, rfl, ho0, hb⟩; have n0_ := Aside0.mk (Kd.R_elder' HO284.out (Kd.R_base ho0) hb); have n1_ := Aside0.mk (Kd.R_elder' HO287.out (Kd.R_base ho0) hb); have n2_ := Aside0.mk (Kd.R_elder' HO292.out (Kd.R_base ho0) hb); have n3_ := Aside0.mk (Kd.R_elder' HO294.out (Kd.R_base ho0) hb); have n4_ := Aside0.mk (Kd.R_elder' HO297.out (Kd.R_base ho0) hb); have n5_ := Aside0.mk (Kd.R_elder' HO300.out (Kd.R_base ho0) hb); have n6_ := Aside0.mk (Kd.R_elder' HO304.out (Kd.R_base ho0) hb); have n7_ := Aside0.mk (Kd.R_elder' HO310.out (Kd.R_base ho0) hb); have n8_ := Aside0.mk (Kd.R_elder' HO314.out (Kd.R_base ho0) hb); have n9_ := Aside0.mk (Kd.R_elder' HO317.out (Kd.R_base ho0) hb); have n10_ := Aside0.mk (Kd.R_elder' HO321.out (Kd.R_base ho0) hb); have n11_ := Aside0.mk (Kd.R_elder' HO324.out (Kd.R_base ho0) hb); have n12_ := Aside0.mk (Kd.R_elder' HO327.out (Kd.R_base ho0) hb); have n13_ := Aside0.mk (Kd.R_lower (Kd.R_new' (Kd.R_new' (Kd.R_new' (Kd.R_new' (Kd.R_new' (Kd.R_new' (Kd.R_new' (Kd.R_new' (Kd.R_new' (Kd.R_new' (Kd.R_new' (Kd.R_new' (Kd.R_new' ho0 (Kd.R_lt HO284.out)) (Kd.R_lt HO287.out)) (Kd.R_lt HO292.out)) (Kd.R_lt HO294.out)) (Kd.R_lt HO297.out)) (Kd.R_lt HO300.out)) (Kd.R_lt HO304.out)) (Kd.R_lt HO310.out)) (Kd.R_lt HO314.out)) (Kd.R_lt HO317.out)) (Kd.R_lt HO321.out)) (Kd.R_lt HO324.out)) (Kd.R_lt HO327.out)) (below_size HB.out)); have n14_ := Aside0.mk (below_step HB.out hb); clear HO284; clear HO287; clear HO292; clear HO294; clear HO297; clear HO300; clear HO304; clear HO310; clear HO314; clear HO317; clear HO321; clear HO324; clear HO327; clear HB; have HO284 := n0_; have HO287 := n1_; have HO292 := n2_; have HO294 := n3_; have HO297 := n4_; have HO300 := n5_; have HO304 := n6_; have HO310 := n7_; have HO314 := n8_; have HO317 := n9_; have HO321 := n10_; have HO324 := n11_; have HO327 := n12_; have HO330 := n13_; have HB := n14_; clear n0_ n1_ n2_ n3_ n4_ n5_ n6_ n7_ n8_ n9_ n10_ n11_ n12_ n13_ n14_; (try clear hb ho0); obtain ⟨Ao59, co59, eo59⟩ := Kd.R_slice HO330.out; subst eo59) | (clear tk8_; go_at_call 48; (with_reducible refine (big_Low.calls k _ _ t328 t331 _ ?side1 ?side2 A27.out).mono ?_); (case side1 => repeat (first | exact (Kd.R_reads' HO330.out).2.2 | (with_reducible refine Kd.C_alloc ?_ _) | (with_reducible refine Kd.C_drewN ?_ _) | (with_reducible refine Kd.C_drew ?_))); (case side2 => exact (Kd.R_reads' HO330.out).2.1); rintro e w60 ⟨rfl, hb⟩; have n0_ := Aside0.mk (Kd.R_below HO284.out hb); have n1_ := Aside0.mk (Kd.R_below HO287.out hb); have n2_ := Aside0.mk (Kd.R_below HO292.out hb); have n3_ := Aside0.mk (Kd.R_below HO294.out hb); have n4_ := Aside0.mk (Kd.R_below HO297.out hb); have n5_ := Aside0.mk (Kd.R_below HO300.out hb); have n6_ := Aside0.mk (Kd.R_below HO304.out hb); have n7_ := Aside0.mk (Kd.R_below HO310.out hb); have n8_ := Aside0.mk (Kd.R_below HO314.out hb); have n9_ := Aside0.mk (Kd.R_below HO317.out hb); have n10_ := Aside0.mk (Kd.R_below HO321.out hb); have n11_ := Aside0.mk (Kd.R_below HO324.out hb); have n12_ := Aside0.mk (Kd.R_below HO327.out hb); have n13_ := Aside0.mk (Kd.R_below HO330.out hb); have n14_ := Aside0.mk (below_step HB.out hb); clear HO284; clear HO287; clear HO292; clear HO294; clear HO297; clear HO300; clear HO304; clear HO310; clear HO314; clear HO317; clear HO321; clear HO324; clear HO327; clear HO330; clear HB; have HO284 := n0_; have HO287 := n1_; have HO292 := n2_; have HO294 := n3_; have HO297 := n4_; have HO300 := n5_; have HO304 := n6_; have HO310 := n7_; have HO314 := n8_; have HO317 := n9_; have HO321 := n10_; have HO324 := n11_; have HO327 := n12_; have HO330 := n13_; have HB := n14_; clear n0_ n1_ n2_ n3_ n4_ n5_ n6_ n7_ n8_ n9_ n10_ n11_ n12_ n13_ n14_; (try clear hb); (try clear hb2); (try clear hk); (try clear hi)))
         go_ret
         exact ⟨by first | rfl | (simp [errW_none, errW_some] <;> rfl) | (simp [*, errW_none, errW_some] <;> rfl), by repeat (first | (with_reducible first | exact HB.out | apply below_alloc | apply pw_below_drewN | apply below_drew1) | exact HB.out)⟩
        ·rw [if_neg c23] at H
         have c23b0 : ((t319.length : Int) == 0) = false := beq_eq_false_iff_ne.mpr c23
         have c23b1 : ((t319.length : Int) != 0) = true := bne_iff_ne.mpr c23
         have c23b2 : ¬ (t319 = []) := fun h_ => c23 (by rw [h_]; rfl)
         exact absurd (Option.some.inj H) (by rw [hrt]; decide)
       ·rw [if_neg c21] at H
        have c21b0 : (t318 == (-1)) = false := beq_eq_false_iff_ne.mpr c21
        have c21b1 : (t318 != (-1)) = true := bne_iff_ne.mpr c21
        exact absurd (Option.some.inj H) (by rw [hrt]; decide)
      ·rw [if_neg c17] at H
       have c17b0 : (t311 == 10) = false := beq_eq_false_iff_ne.mpr c17
       have c17b1 : (t311 != 10) = true := bne_iff_ne.mpr c17
       exact absurd (Option.some.inj H) (by rw [hrt]; decide)
     ·rw [if_neg c14] at H
      have c14b0 : (t307 == 5) = false := beq_eq_false_iff_ne.mpr c14
      have c14b1 : (t307 != 5) = true := bne_iff_ne.mpr c14
      exact absurd (Option.some.inj H) (by rw [hrt]; decide)
    ·replace c12 := Bool.eq_false_iff.mpr c12
     subst c12
     have H1 : (some false) = some r := by rw [if_neg (show ¬ (false = true) by decide)] at H; exact H
     clear H
     have H := H1
     clear H1
     exact absurd (Option.some.inj H) (by rw [hrt]; decide)
   ·rw [if_neg c11] at H
    have c11b0 : (t306 == 2) = false := beq_eq_false_iff_ne.mpr c11
    have c11b1 : (t306 != 2) = true := bne_iff_ne.mpr c11
    exact absurd (Option.some.inj H) (by rw [hrt]; decide)
  ·rw [if_neg c9] at H
   have c9b0 : (t305 == 3) = false := beq_eq_false_iff_ne.mpr c9
   have c9b1 : (t305 != 3) = true := bne_iff_ne.mpr c9
   exact absurd (Option.some.inj H) (by rw [hrt]; decide)
 ·replace c7 := Bool.eq_false_iff.mpr c7
  subst c7
  have H1 : (some false) = some r := by rw [if_neg (show ¬ (false = true) by decide)] at H; exact H
  clear H
  have H := H1
  clear H1
  exact absurd (Option.some.inj H) (by rw [hrt]; decide)

/-! ### assayerlaw3_lightG: function 32 -/
def assayerlaw3_lightG.l0 : Nat → List (List Int) → Int → Option (Bool)
 | 0, _, _ => none
 | k + 1, x0, x3 => if x3 < (x0.length : Int) then (if 0 ≤ x3 then (if ((rd_L1 x0 x3).length : Int) > 12 then (some false) else (assayerlaw3_lightG.l0 k x0 (wrap64 (x3 + 1)))) else (none)) else (some true)
def assayerlaw3_lightG.f (k : Nat) (l0 : List (List Int)) : Option (Bool) := assayerlaw3_lightG.l0 k l0 0
theorem assayerlaw3_lightG.mono_l : ∀ k, (∀ y0 y1, LeO (assayerlaw3_lightG.l0 k y0 y1) (assayerlaw3_lightG.l0 (k + 1) y0 y1))
 | 0 => fun _ _ r h => by simp [assayerlaw3_lightG.l0] at h
 | k + 1 => by
  have ih0 := assayerlaw3_lightG.mono_l k
  ·intro y0 y1
   unfold assayerlaw3_lightG.l0
   repeat' first
   | (with_reducible exact ih0 _ _)
   | (with_reducible exact LeO.refl _)
   | (with_reducible exact LeO.none _)
   | (with_reducible refine LeO.ite ?_ ?_)
   | (with_reducible refine LeO.bind ?_ (fun _ => ?_))
   | exact ih0 _ _
   | exact LeO.none _
   | refine LeO.ite ?_ ?_
   | refine LeO.bind ?_ (fun _ => ?_)
theorem assayerlaw3_lightG.mono : ∀ a0 k, LeO (assayerlaw3_lightG.f k a0) (assayerlaw3_lightG.f (k + 1) a0) := by
 intro a0 k
 have ih0 := assayerlaw3_lightG.mono_l k
 unfold assayerlaw3_lightG.f
 repeat' first
   | (with_reducible exact ih0 _ _)
   | (with_reducible exact LeO.refl _)
   | (with_reducible exact LeO.none _)
   | (with_reducible refine LeO.ite ?_ ?_)
   | (with_reducible refine LeO.bind ?_ (fun _ => ?_))
   | exact ih0 _ _
   | exact LeO.none _
   | refine LeO.ite ?_ ?_
   | refine LeO.bind ?_ (fun _ => ?_)
set_option maxHeartbeats 8000000 in
set_option maxRecDepth 100000 in
theorem assayerlaw3_lightG.calls (k : Nat) (A0 : Option Addr) (c0 : Nat) (l0 : List (List Int)) (r : Bool) (w : World) (hr0 : Kd.C (Kd.slice 64 (Kd.int .u32)) w A0 l0.length l0) (hc0 : l0.length ≤ c0) (h : assayerlaw3_lightG.f k l0 = some r) :
  Calls Try.prog 32 #[.slice A0 l0.length c0] w fun e w' => e = .returned (.bool r) ∧ Drawn0 w w' := by
 have HR0 := Aside0.mk hr0
 have HC0 := Aside0.mk hc0
 clear hr0 hc0
 have H : (assayerlaw3_lightG.l0 k l0 0) = some r := h
 clear h
 have H' := Aside0.mk H
 clear H
 go_enter Try.func32, Try.ntmps32
 go_wp2
 go_loopg [3] k (fun kq v3 w' => ∃ (x3_1 : Int), v3 = .int .i64 x3_1 ∧ Aside0 (assayerlaw3_lightG.l0 kq l0 x3_1 = some r) ∧ Aside0 (kq ≤ k) ∧ Drawn0 w w')
 case atStart => exact ⟨(0), (by first | rfl | (simp; done) | (simp [*]; done)), H', ⟨Nat.le_refl _⟩, by repeat (first | exact Drawn0.refl _ | apply Drawn0.step)⟩
 case round =>
  clear H'
  obtain ⟨x3_1, rfl, HA, HK1, ⟨m1, rfl⟩⟩ := hrel
  cases gk with
  | zero => exact absurd HA.out (by simp [assayerlaw3_lightG.l0])
  | succ k1 =>
   have H := HA.out
   clear HA
   simp only [assayerlaw3_lightG.l0] at H
   by_cases c2 : x3_1 < (l0.length : Int)
   ·rw [if_pos c2] at H
    have c2b0 : decide (x3_1 < (l0.length : Int)) = true := decide_eq_true c2
    clear c2
    by_cases c3 : 0 ≤ x3_1
    ·rw [if_pos c3] at H
     have c3b0 : decide (0 ≤ x3_1) = true := decide_eq_true c3
     clear c3
     by_cases c4 : ((rd_L1 l0 x3_1).length : Int) > 12
     ·rw [if_pos c4] at H
      have c4b0 : decide (12 < ((rd_L1 l0 x3_1).length : Int)) = true := decide_eq_true c4
      have c4b1 : decide (12 < (rd_L1 l0 x3_1).length) = true := decide_eq_true (by omega)
      clear c4
      obtain rfl := Option.some.inj H
      have p332 : 0 ≤ (x3_1 : Int) := of_decide_eq_true (by first | (with_reducible assumption) | assumption)
      have q332 : x3_1 < (l0.length : Int) := of_decide_eq_true (by first | (with_reducible assumption) | assumption)
      obtain ⟨ad332, A332_0, c332_0, e332, hx332_0, hl332_0, hi332_0⟩ := at_L1 HR0.out x3_1 p332 q332
      cases e332
      have HR332_0 := Aside0.mk hi332_0
      have HC332_0 := Aside0.mk hl332_0
      clear hi332_0 hl332_0
      replace p332 := eq_true p332
      replace q332 := eq_true q332
      go_wp2
      go_ret
      exact ⟨by first | rfl | (simp; done) | (simp [*]; done), by repeat (first | exact Drawn0.refl _ | apply Drawn0.step)⟩
     ·rw [if_neg c4] at H
      have c4b0 : decide (12 < ((rd_L1 l0 x3_1).length : Int)) = false := decide_eq_false c4
      have c4b1 : decide (12 < (rd_L1 l0 x3_1).length) = false := decide_eq_false (by omega)
      clear c4
      have H' := Aside0.mk H
      clear H
      have p332 : 0 ≤ (x3_1 : Int) := of_decide_eq_true (by first | (with_reducible assumption) | assumption)
      have q332 : x3_1 < (l0.length : Int) := of_decide_eq_true (by first | (with_reducible assumption) | assumption)
      obtain ⟨ad332, A332_0, c332_0, e332, hx332_0, hl332_0, hi332_0⟩ := at_L1 HR0.out x3_1 p332 q332
      cases e332
      have HR332_0 := Aside0.mk hi332_0
      have HC332_0 := Aside0.mk hl332_0
      clear hi332_0 hl332_0
      replace p332 := eq_true p332
      replace q332 := eq_true q332
      go_wp2
      go_roundg k1
      case measure => have := HK1.out; omega
      case rel => exact ⟨(wrap64 (x3_1 + 1)), (by first | rfl | (simp; done) | (simp [*]; done)), H', ⟨by have := HK1.out; omega⟩, by repeat (first | exact Drawn0.refl _ | apply Drawn0.step)⟩
    ·rw [if_neg c3] at H
     exact absurd H (by simp)
   ·rw [if_neg c2] at H
    have c2b0 : decide (x3_1 < (l0.length : Int)) = false := decide_eq_false c2
    clear c2
    obtain rfl := Option.some.inj H
    go_wp2
    go_ret
    exact ⟨by first | rfl | (simp; done) | (simp [*]; done), by repeat (first | exact Drawn0.refl _ | apply Drawn0.step)⟩
/-! ### assayerlaw3_light: function 32 (a contract of our own) -/
def assayerlaw3_light.f (k : Nat) (l0 l1 : List Int) : Option (Bool) := assayerlaw3_lightG.f k [l0, l1]
theorem assayerlaw3_light.mono : ∀ a0 a1 k, LeO (assayerlaw3_light.f k a0 a1) (assayerlaw3_light.f (k + 1) a0 a1) := fun a0 a1 k => assayerlaw3_lightG.mono [a0, a1] k
theorem assayerlaw3_light.calls (k : Nat) (A0 : Option Addr) (c0 : Nat) (l0 : List Int) (A1 : Option Addr) (c1 : Nat) (l1 : List Int) (r : Bool) (w : World) (hr0 : Kd.C (Kd.int .u32) w A0 l0.length l0) (hc0 : l0.length ≤ c0) (hr1 : Kd.C (Kd.int .u32) w A1 l1.length l1) (hc1 : l1.length ≤ c1) (h : assayerlaw3_light.f k l0 l1 = some r) :
    Calls Try.prog 32 #[.slice (some ⟨w.heap.size, 0, none⟩) 2 2] (w.alloc (.cells #[.slice A0 l0.length c0, .slice A1 l1.length c1] 49)) fun e w' => e = .returned (.bool r) ∧ Below (w.alloc (.cells #[.slice A0 l0.length c0, .slice A1 l1.length c1] 49)).heap.size (w.alloc (.cells #[.slice A0 l0.length c0, .slice A1 l1.length c1] 49)) w' := by
  refine (assayerlaw3_lightG.calls k (some ⟨w.heap.size, 0, none⟩) 2 [l0, l1] r _ (lit_rows2 w 49 64 hr0 hc0 hr1 hc1) (Nat.le_refl 2) h).mono ?_
  rintro e w' ⟨he, nd, rfl⟩
  exact ⟨he, pw_below_drewN (Below.refl _ _) nd⟩

/-! ### assayerref1_SameLimbs: function 33 -/
def assayerref1_SameLimbs.l0 : Nat → List Int → List Int → Int → Option (Bool)
 | 0, _, _, _ => none
 | k + 1, x0, x1, x5 => if x5 < (x0.length : Int) then (if 0 ≤ x5 then (if x5 < (x1.length : Int) then (if (rd x0 x5) = (rd x1 x5) then (assayerref1_SameLimbs.l0 k x0 x1 (wrap64 (x5 + 1))) else (some false)) else (none)) else (none)) else (some true)
def assayerref1_SameLimbs.f (k : Nat) (l0 : List Int) (l1 : List Int) : Option (Bool) := if (l0.length : Int) = (l1.length : Int) then (assayerref1_SameLimbs.l0 k l0 l1 0) else (some false)
theorem assayerref1_SameLimbs.mono_l : ∀ k, (∀ y0 y1 y2, LeO (assayerref1_SameLimbs.l0 k y0 y1 y2) (assayerref1_SameLimbs.l0 (k + 1) y0 y1 y2))
 | 0 => fun _ _ _ r h => by simp [assayerref1_SameLimbs.l0] at h
 | k + 1 => by
  have ih0 := assayerref1_SameLimbs.mono_l k
  ·intro y0 y1 y2
   unfold assayerref1_SameLimbs.l0
   repeat' first
   | (with_reducible exact ih0 _ _ _)
   | (with_reducible exact LeO.refl _)
   | (with_reducible exact LeO.none _)
   | (with_reducible refine LeO.ite ?_ ?_)
   | (with_reducible refine LeO.bind ?_ (fun _ => ?_))
   | exact ih0 _ _ _
   | exact LeO.none _
   | refine LeO.ite ?_ ?_
   | refine LeO.bind ?_ (fun _ => ?_)
theorem assayerref1_SameLimbs.mono : ∀ a0 a1 k, LeO (assayerref1_SameLimbs.f k a0 a1) (assayerref1_SameLimbs.f (k + 1) a0 a1) := by
 intro a0 a1 k
 have ih0 := assayerref1_SameLimbs.mono_l k
 unfold assayerref1_SameLimbs.f
 repeat' first
   | (with_reducible exact ih0 _ _ _)
   | (with_reducible exact LeO.refl _)
   | (with_reducible exact LeO.none _)
   | (with_reducible refine LeO.ite ?_ ?_)
   | (with_reducible refine LeO.bind ?_ (fun _ => ?_))
   | exact ih0 _ _ _
   | exact LeO.none _
   | refine LeO.ite ?_ ?_
   | refine LeO.bind ?_ (fun _ => ?_)
set_option maxHeartbeats 8000000 in
set_option maxRecDepth 100000 in
theorem assayerref1_SameLimbs.calls (k : Nat) (A0 : Option Addr) (c0 : Nat) (l0 : List Int) (A1 : Option Addr) (c1 : Nat) (l1 : List Int) (r : Bool) (w : World) (hr0 : Kd.C (Kd.int .u32) w A0 l0.length l0) (hc0 : l0.length ≤ c0) (hr1 : Kd.C (Kd.int .u32) w A1 l1.length l1) (hc1 : l1.length ≤ c1) (h : assayerref1_SameLimbs.f k l0 l1 = some r) :
  Calls Try.prog 33 #[.slice A0 l0.length c0, .slice A1 l1.length c1] w fun e w' => e = .returned (.bool r) ∧ Drawn0 w w' := by
 have HR0 := Aside0.mk hr0
 have HC0 := Aside0.mk hc0
 clear hr0 hc0
 have HR1 := Aside0.mk hr1
 have HC1 := Aside0.mk hc1
 clear hr1 hc1
 have H : (if (l0.length : Int) = (l1.length : Int) then (assayerref1_SameLimbs.l0 k l0 l1 0) else (some false)) = some r := h
 clear h
 by_cases c3 : (l0.length : Int) = (l1.length : Int)
 ·rw [if_pos c3] at H
  have c3b0 : ((l0.length : Int) == (l1.length : Int)) = true := beq_iff_eq.mpr c3
  have c3b1 : ((l0.length : Int) != (l1.length : Int)) = false := bne_eq_false_iff_eq.mpr c3
  have c3b2 : (l0.length == l1.length) = true := by first | simpa using c3 | (simp at c3 ⊢; omega)
  clear c3
  have H' := Aside0.mk H
  clear H
  go_enter Try.func33, Try.ntmps33
  go_wp2
  repeat (go_quiet (fail); try go_wp2)
  go_loopg [5] k (fun kq v5 w' => ∃ (x5_1 : Int), v5 = .int .i64 x5_1 ∧ Aside0 (assayerref1_SameLimbs.l0 kq l0 l1 x5_1 = some r) ∧ Aside0 (kq ≤ k) ∧ Drawn0 w w')
  case atStart => exact ⟨(0), (by first | rfl | (simp; done) | (simp [*]; done)), H', ⟨Nat.le_refl _⟩, by repeat (first | exact Drawn0.refl _ | apply Drawn0.step)⟩
  case round =>
   clear H'
   try clear c1
   try clear p2
   try clear c3
   try clear c3b0
   try clear c3b1
   try clear c3b2
   obtain ⟨x5_1, rfl, HA, HK1, ⟨m1, rfl⟩⟩ := hrel
   cases gk with
   | zero => exact absurd HA.out (by simp [assayerref1_SameLimbs.l0])
   | succ k1 =>
    have H := HA.out
    clear HA
    simp only [assayerref1_SameLimbs.l0] at H
    by_cases c4 : x5_1 < (l0.length : Int)
    ·rw [if_pos c4] at H
     have c4b0 : decide (x5_1 < (l0.length : Int)) = true := decide_eq_true c4
     clear c4
     by_cases c5 : 0 ≤ x5_1
     ·rw [if_pos c5] at H
      have c5b0 : decide (0 ≤ x5_1) = true := decide_eq_true c5
      clear c5
      by_cases c6 : x5_1 < (l1.length : Int)
      ·rw [if_pos c6] at H
       have c6b0 : decide (x5_1 < (l1.length : Int)) = true := decide_eq_true c6
       clear c6
       by_cases c7 : (rd l0 x5_1) = (rd l1 x5_1)
       ·rw [if_pos c7] at H
        have c7b0 : ((rd l0 x5_1) == (rd l1 x5_1)) = true := beq_iff_eq.mpr c7
        have c7b1 : ((rd l0 x5_1) != (rd l1 x5_1)) = false := bne_eq_false_iff_eq.mpr c7
        clear c7
        have H' := Aside0.mk H
        clear H
        have p333 : 0 ≤ (x5_1 : Int) := of_decide_eq_true (by first | (with_reducible assumption) | assumption)
        have q333 : x5_1 < (l0.length : Int) := of_decide_eq_true (by first | (with_reducible assumption) | assumption)
        obtain ⟨ad333, e333, hx333_0⟩ := Kd.at_int HR0.out x5_1 p333 q333
        cases e333
        replace p333 := eq_true p333
        replace q333 := eq_true q333
        have p334 : 0 ≤ (x5_1 : Int) := of_decide_eq_true (by first | (with_reducible assumption) | assumption)
        have q334 : x5_1 < (l1.length : Int) := of_decide_eq_true (by first | (with_reducible assumption) | assumption)
        obtain ⟨ad334, e334, hx334_0⟩ := Kd.at_int HR1.out x5_1 p334 q334
        cases e334
        replace p334 := eq_true p334
        replace q334 := eq_true q334
        go_wp2
        repeat (go_quiet (fail); try go_wp2)
        go_roundg k1
        case measure => have := HK1.out; omega
        case rel => exact ⟨(wrap64 (x5_1 + 1)), (by first | rfl | (simp; done) | (simp [*]; done)), H', ⟨by have := HK1.out; omega⟩, by repeat (first | exact Drawn0.refl _ | apply Drawn0.step)⟩
       ·rw [if_neg c7] at H
        have c7b0 : ((rd l0 x5_1) == (rd l1 x5_1)) = false := beq_eq_false_iff_ne.mpr c7
        have c7b1 : ((rd l0 x5_1) != (rd l1 x5_1)) = true := bne_iff_ne.mpr c7
        obtain rfl := Option.some.inj H
        have p333 : 0 ≤ (x5_1 : Int) := of_decide_eq_true (by first | (with_reducible assumption) | assumption)
        have q333 : x5_1 < (l0.length : Int) := of_decide_eq_true (by first | (with_reducible assumption) | assumption)
        obtain ⟨ad333, e333, hx333_0⟩ := Kd.at_int HR0.out x5_1 p333 q333
        cases e333
        replace p333 := eq_true p333
        replace q333 := eq_true q333
        have p334 : 0 ≤ (x5_1 : Int) := of_decide_eq_true (by first | (with_reducible assumption) | assumption)
        have q334 : x5_1 < (l1.length : Int) := of_decide_eq_true (by first | (with_reducible assumption) | assumption)
        obtain ⟨ad334, e334, hx334_0⟩ := Kd.at_int HR1.out x5_1 p334 q334
        cases e334
        replace p334 := eq_true p334
        replace q334 := eq_true q334
        go_wp2
        repeat (go_quiet (fail); try go_wp2)
        go_ret
        exact ⟨by first | rfl | (simp; done) | (simp [*]; done), by repeat (first | exact Drawn0.refl _ | apply Drawn0.step)⟩
      ·rw [if_neg c6] at H
       exact absurd H (by simp)
     ·rw [if_neg c5] at H
      exact absurd H (by simp)
    ·rw [if_neg c4] at H
     have c4b0 : decide (x5_1 < (l0.length : Int)) = false := decide_eq_false c4
     clear c4
     obtain rfl := Option.some.inj H
     go_wp2
     repeat (go_quiet (fail); try go_wp2)
     go_ret
     exact ⟨by first | rfl | (simp; done) | (simp [*]; done), by repeat (first | exact Drawn0.refl _ | apply Drawn0.step)⟩
 ·rw [if_neg c3] at H
  have c3b0 : ((l0.length : Int) == (l1.length : Int)) = false := beq_eq_false_iff_ne.mpr c3
  have c3b1 : ((l0.length : Int) != (l1.length : Int)) = true := bne_iff_ne.mpr c3
  have c3b2 : (l0.length == l1.length) = false := by first | simpa using c3 | (simp at c3 ⊢; omega)
  obtain rfl := Option.some.inj H
  go_enter Try.func33, Try.ntmps33
  go_wp2
  repeat (go_quiet (fail); try go_wp2)
  go_ret
  exact ⟨by first | rfl | (simp; done) | (simp [*]; done), by repeat (first | exact Drawn0.refl _ | apply Drawn0.step)⟩

/-! ### assayerref1_at: function 75 -/
def assayerref1_at.f (l0 : List Int) (a1 : Int) : Option (Int) := if a1 < (l0.length : Int) then (if 0 ≤ a1 then (some (IntKind.u64.wrap (rd l0 a1))) else (none)) else (some 0)
set_option maxHeartbeats 8000000 in
set_option maxRecDepth 100000 in
theorem assayerref1_at.calls (A0 : Option Addr) (c0 : Nat) (l0 : List Int) (a1 : Int) (r : Int) (w : World) (hr0 : Kd.C (Kd.int .u32) w A0 l0.length l0) (hc0 : l0.length ≤ c0) (h : assayerref1_at.f l0 a1 = some r) :
  Calls Try.prog 75 #[.slice A0 l0.length c0, .int .i64 a1] w fun e w' => e = .returned (.int .u64 r) ∧ Drawn0 w w' := by
 have HR0 := Aside0.mk hr0
 have HC0 := Aside0.mk hc0
 clear hr0 hc0
 have H : (if a1 < (l0.length : Int) then (if 0 ≤ a1 then (some (IntKind.u64.wrap (rd l0 a1))) else (none)) else (some 0)) = some r := h
 clear h
 by_cases c3 : a1 < (l0.length : Int)
 ·rw [if_pos c3] at H
  have c3b0 : decide (a1 < (l0.length : Int)) = true := decide_eq_true c3
  clear c3
  by_cases c4 : 0 ≤ a1
  ·rw [if_pos c4] at H
   have c4b0 : decide (0 ≤ a1) = true := decide_eq_true c4
   clear c4
   obtain rfl := Option.some.inj H
   have p335 : 0 ≤ (a1 : Int) := of_decide_eq_true (by first | (with_reducible assumption) | assumption)
   have q335 : a1 < (l0.length : Int) := of_decide_eq_true (by first | (with_reducible assumption) | assumption)
   obtain ⟨ad335, e335, hx335_0⟩ := Kd.at_int HR0.out a1 p335 q335
   cases e335
   replace p335 := eq_true p335
   replace q335 := eq_true q335
   go_enter Try.func75, Try.ntmps75
   go_wp2
   go_ret
   exact ⟨by first | rfl | (simp; done) | (simp [*]; done), by repeat (first | exact Drawn0.refl _ | apply Drawn0.step)⟩
  ·rw [if_neg c4] at H
   exact absurd H (by simp)
 ·rw [if_neg c3] at H
  have c3b0 : decide (a1 < (l0.length : Int)) = false := decide_eq_false c3
  clear c3
  obtain rfl := Option.some.inj H
  go_enter Try.func75, Try.ntmps75
  go_wp2
  go_ret
  exact ⟨by first | rfl | (simp; done) | (simp [*]; done), by repeat (first | exact Drawn0.refl _ | apply Drawn0.step)⟩

/-! ### assayerref1_Cmp: function 43 -/
def assayerref1_Cmp.l0 : Nat → List Int → List Int → Int → Option (Int)
 | 0, _, _, _ => none
 | k + 1, x0, x1, x5 => if x5 ≥ 0 then ((assayerref1_at.f x0 x5).bind fun t336 => ((assayerref1_at.f x1 x5).bind fun t337 => (if t336 < t337 then (some (-1)) else ((assayerref1_at.f x0 x5).bind fun t338 => ((assayerref1_at.f x1 x5).bind fun t339 => (if t338 > t339 then (some 1) else (assayerref1_Cmp.l0 k x0 x1 (wrap64 (x5 - 1))))))))) else (some 0)
def assayerref1_Cmp.f (k : Nat) (l0 : List Int) (l1 : List Int) : Option (Int) := if (l0.length : Int) < (l1.length : Int) then (assayerref1_Cmp.l0 k l0 l1 (wrap64 ((l1.length : Int) - 1))) else (assayerref1_Cmp.l0 k l0 l1 (wrap64 ((l0.length : Int) - 1)))
theorem assayerref1_Cmp.mono_l : ∀ k, (∀ y0 y1 y2, LeO (assayerref1_Cmp.l0 k y0 y1 y2) (assayerref1_Cmp.l0 (k + 1) y0 y1 y2))
 | 0 => fun _ _ _ r h => by simp [assayerref1_Cmp.l0] at h
 | k + 1 => by
  have ih0 := assayerref1_Cmp.mono_l k
  ·intro y0 y1 y2
   unfold assayerref1_Cmp.l0
   repeat' first
   | (with_reducible exact ih0 _ _ _)
   | (with_reducible exact LeO.refl _)
   | (with_reducible exact LeO.none _)
   | (with_reducible refine LeO.ite ?_ ?_)
   | (with_reducible refine LeO.bind ?_ (fun _ => ?_))
   | exact ih0 _ _ _
   | exact LeO.none _
   | refine LeO.ite ?_ ?_
   | refine LeO.bind ?_ (fun _ => ?_)
theorem assayerref1_Cmp.mono : ∀ a0 a1 k, LeO (assayerref1_Cmp.f k a0 a1) (assayerref1_Cmp.f (k + 1) a0 a1) := by
 intro a0 a1 k
 have ih0 := assayerref1_Cmp.mono_l k
 unfold assayerref1_Cmp.f
 repeat' first
   | (with_reducible exact ih0 _ _ _)
   | (with_reducible exact LeO.refl _)
   | (with_reducible exact LeO.none _)
   | (with_reducible refine LeO.ite ?_ ?_)
   | (with_reducible refine LeO.bind ?_ (fun _ => ?_))
   | exact ih0 _ _ _
   | exact LeO.none _
   | refine LeO.ite ?_ ?_
   | refine LeO.bind ?_ (fun _ => ?_)
set_option maxHeartbeats 8000000 in
set_option maxRecDepth 100000 in
theorem assayerref1_Cmp.calls (k : Nat) (A0 : Option Addr) (c0 : Nat) (l0 : List Int) (A1 : Option Addr) (c1 : Nat) (l1 : List Int) (r : Int) (w : World) (hr0 : Kd.C (Kd.int .u32) w A0 l0.length l0) (hc0 : l0.length ≤ c0) (hr1 : Kd.C (Kd.int .u32) w A1 l1.length l1) (hc1 : l1.length ≤ c1) (h : assayerref1_Cmp.f k l0 l1 = some r) :
  Calls Try.prog 43 #[.slice A0 l0.length c0, .slice A1 l1.length c1] w fun e w' => e = .returned (.int .i64 r) ∧ Below w.heap.size w w' := by
 have HR0 := Aside0.mk hr0
 have HC0 := Aside0.mk hc0
 clear hr0 hc0
 have HR1 := Aside0.mk hr1
 have HC1 := Aside0.mk hc1
 clear hr1 hc1
 have HB := Aside0.mk (Below.refl w.heap.size w)
 have H : (if (l0.length : Int) < (l1.length : Int) then (assayerref1_Cmp.l0 k l0 l1 (wrap64 ((l1.length : Int) - 1))) else (assayerref1_Cmp.l0 k l0 l1 (wrap64 ((l0.length : Int) - 1)))) = some r := h
 clear h
 by_cases c3 : (l0.length : Int) < (l1.length : Int)
 ·rw [if_pos c3] at H
  have c3i := eq_true c3
  have c3b0 : decide ((l0.length : Int) < (l1.length : Int)) = true := decide_eq_true c3
  have c3b1 : decide (l0.length < l1.length) = true := decide_eq_true (Int.ofNat_lt.mp c3)
  clear c3
  have H' := Aside0.mk H
  clear H
  go_enter Try.func43, Try.ntmps43
  go_wp2
  go_loopg [5] k (fun kq v5 w' => ∃ (x5_1 : Int), v5 = .int .i64 x5_1 ∧ Aside0 (assayerref1_Cmp.l0 kq l0 l1 x5_1 = some r) ∧ Aside0 (kq ≤ k) ∧ Aside0 (Below w.heap.size w w'))
  case atStart => exact ⟨(wrap64 ((l1.length : Int) - 1)), (by first | rfl | (simp; done) | (simp [*]; done)), H', ⟨Nat.le_refl _⟩, ⟨by repeat (first | (with_reducible first | exact HB.out | apply below_alloc | apply pw_below_drewN | apply below_drew1) | exact HB.out)⟩⟩
  case round =>
   clear H'
   try clear c1
   try clear p2
   try clear c3
   try clear c3b0
   try clear c3b1
   obtain ⟨x5_1, rfl, HA, HK1, HB⟩ := hrel
   cases gk with
   | zero => exact absurd HA.out (by simp [assayerref1_Cmp.l0])
   | succ k1 =>
    have H := HA.out
    clear HA
    simp only [assayerref1_Cmp.l0] at H
    by_cases c4 : x5_1 ≥ 0
    ·rw [if_pos c4] at H
     have c4b0 : decide (0 ≤ x5_1) = true := decide_eq_true c4
     clear c4
     replace H := Option.bind_eq_some_iff.mp H
     obtain ⟨t336, A50, H⟩ := H
     replace H : ((assayerref1_at.f l1 x5_1).bind fun t337 => (if t336 < t337 then (some (-1)) else ((assayerref1_at.f l0 x5_1).bind fun t338 => ((assayerref1_at.f l1 x5_1).bind fun t339 => (if t338 > t339 then (some 1) else (assayerref1_Cmp.l0 k1 l0 l1 (wrap64 (x5_1 - 1)))))))) = some r := H
     have A5 := Aside0.mk A50
     clear A50
     replace H := Option.bind_eq_some_iff.mp H
     obtain ⟨t337, A60, H⟩ := H
     replace H : (if t336 < t337 then (some (-1)) else ((assayerref1_at.f l0 x5_1).bind fun t338 => ((assayerref1_at.f l1 x5_1).bind fun t339 => (if t338 > t339 then (some 1) else (assayerref1_Cmp.l0 k1 l0 l1 (wrap64 (x5_1 - 1))))))) = some r := H
     have A6 := Aside0.mk A60
     clear A60
     by_cases c7 : t336 < t337
     ·rw [if_pos c7] at H
      have c7b0 : decide (t336 < t337) = true := decide_eq_true c7
      clear c7
      obtain rfl := Option.some.inj H
      go_wp2_with (first | ((with_reducible refine gate_callee (f := 75) rfl ?_); refine goesL_ (some 18) rfl rfl Try.func75 (by kernel_rfl) rfl #[.slice A0 l0.length c0, .int .i64 x5_1] rfl (by (try simp only [List.map_toArray, List.map_cons, List.map_nil]); first | done | rfl | (simp only [List.length_drop, List.length_take]; rfl)) ?_; (with_reducible refine (assayerref1_at.calls _ _ l0 x5_1 t336 _ ?side1 ?side2 A5.out).mono ?_); (case side1 => repeat (first | exact (Kd.C_below HR0.out HB.out) | (with_reducible refine Kd.C_alloc ?_ _) | (with_reducible refine Kd.C_drewN ?_ _) | (with_reducible refine Kd.C_drew ?_))); (case side2 => exact HC0.out); rintro e w' ⟨rfl, ⟨nd, rfl⟩⟩; refine ⟨_, rfl, ?_⟩) | ((with_reducible refine gate_callee (f := 75) rfl ?_); refine goesL_ (some 21) rfl rfl Try.func75 (by kernel_rfl) rfl #[.slice A1 l1.length c1, .int .i64 x5_1] rfl (by (try simp only [List.map_toArray, List.map_cons, List.map_nil]); first | done | rfl | (simp only [List.length_drop, List.length_take]; rfl)) ?_; (with_reducible refine (assayerref1_at.calls _ _ l1 x5_1 t337 _ ?side1 ?side2 A6.out).mono ?_); (case side1 => repeat (first | exact (Kd.C_below HR1.out (by with_reducible repeat (first | exact HB.out | apply below_alloc | apply pw_below_drewN | apply below_drew1))) | (with_reducible refine Kd.C_alloc ?_ _) | (with_reducible refine Kd.C_drewN ?_ _) | (with_reducible refine Kd.C_drew ?_))); (case side2 => exact HC1.out); rintro e w' ⟨rfl, ⟨nd, rfl⟩⟩; refine ⟨_, rfl, ?_⟩))
      go_ret
      exact ⟨by first | rfl | (simp [errW_none, errW_some] <;> rfl) | (simp [*, errW_none, errW_some] <;> rfl), by repeat (first | (with_reducible first | exact HB.out | apply below_alloc | apply pw_below_drewN | apply below_drew1) | exact HB.out)⟩
     ·rw [if_neg c7] at H
      have c7b0 : decide (t336 < t337) = false := decide_eq_false c7
      clear c7
      replace H := Option.bind_eq_some_iff.mp H
      obtain ⟨t338, A80, H⟩ := H
      replace H : ((assayerref1_at.f l1 x5_1).bind fun t339 => (if t338 > t339 then (some 1) else (assayerref1_Cmp.l0 k1 l0 l1 (wrap64 (x5_1 - 1))))) = some r := H
      have A8 := Aside0.mk A80
      clear A80
      replace H := Option.bind_eq_some_iff.mp H
      obtain ⟨t339, A90, H⟩ := H
      replace H : (if t338 > t339 then (some 1) else (assayerref1_Cmp.l0 k1 l0 l1 (wrap64 (x5_1 - 1)))) = some r := H
      have A9 := Aside0.mk A90
      clear A90
      by_cases c10 : t338 > t339
      ·rw [if_pos c10] at H
       have c10b0 : decide (t339 < t338) = true := decide_eq_true c10
       clear c10
       obtain rfl := Option.some.inj H
       go_wp2_with (first | ((with_reducible refine gate_callee (f := 75) rfl ?_); refine goesL_ (some 18) rfl rfl Try.func75 (by kernel_rfl) rfl #[.slice A0 l0.length c0, .int .i64 x5_1] rfl (by (try simp only [List.map_toArray, List.map_cons, List.map_nil]); first | done | rfl | (simp only [List.length_drop, List.length_take]; rfl)) ?_; (with_reducible refine (assayerref1_at.calls _ _ l0 x5_1 t336 _ ?side1 ?side2 A5.out).mono ?_); (case side1 => repeat (first | exact (Kd.C_below HR0.out HB.out) | (with_reducible refine Kd.C_alloc ?_ _) | (with_reducible refine Kd.C_drewN ?_ _) | (with_reducible refine Kd.C_drew ?_))); (case side2 => exact HC0.out); rintro e w' ⟨rfl, ⟨nd, rfl⟩⟩; refine ⟨_, rfl, ?_⟩) | ((with_reducible refine gate_callee (f := 75) rfl ?_); refine goesL_ (some 21) rfl rfl Try.func75 (by kernel_rfl) rfl #[.slice A1 l1.length c1, .int .i64 x5_1] rfl (by (try simp only [List.map_toArray, List.map_cons, List.map_nil]); first | done | rfl | (simp only [List.length_drop, List.length_take]; rfl)) ?_; (with_reducible refine (assayerref1_at.calls _ _ l1 x5_1 t337 _ ?side1 ?side2 A6.out).mono ?_); (case side1 => repeat (first | exact (Kd.C_below HR1.out (by with_reducible repeat (first | exact HB.out | apply below_alloc | apply pw_below_drewN | apply below_drew1))) | (with_reducible refine Kd.C_alloc ?_ _) | (with_reducible refine Kd.C_drewN ?_ _) | (with_reducible refine Kd.C_drew ?_))); (case side2 => exact HC1.out); rintro e w' ⟨rfl, ⟨nd, rfl⟩⟩; refine ⟨_, rfl, ?_⟩) | ((with_reducible refine gate_callee (f := 75) rfl ?_); refine goesL_ (some 25) rfl rfl Try.func75 (by kernel_rfl) rfl #[.slice A0 l0.length c0, .int .i64 x5_1] rfl (by (try simp only [List.map_toArray, List.map_cons, List.map_nil]); first | done | rfl | (simp only [List.length_drop, List.length_take]; rfl)) ?_; (with_reducible refine (assayerref1_at.calls _ _ l0 x5_1 t338 _ ?side1 ?side2 A8.out).mono ?_); (case side1 => repeat (first | exact (Kd.C_below HR0.out (by with_reducible repeat (first | exact HB.out | apply below_alloc | apply pw_below_drewN | apply below_drew1))) | (with_reducible refine Kd.C_alloc ?_ _) | (with_reducible refine Kd.C_drewN ?_ _) | (with_reducible refine Kd.C_drew ?_))); (case side2 => exact HC0.out); rintro e w' ⟨rfl, ⟨nd, rfl⟩⟩; refine ⟨_, rfl, ?_⟩) | ((with_reducible refine gate_callee (f := 75) rfl ?_); refine goesL_ (some 28) rfl rfl Try.func75 (by kernel_rfl) rfl #[.slice A1 l1.length c1, .int .i64 x5_1] rfl (by (try simp only [List.map_toArray, List.map_cons, List.map_nil]); first | done | rfl | (simp only [List.length_drop, List.length_take]; rfl)) ?_; (with_reducible refine (assayerref1_at.calls _ _ l1 x5_1 t339 _ ?side1 ?side2 A9.out).mono ?_); (case side1 => repeat (first | exact (Kd.C_below HR1.out (by with_reducible repeat (first | exact HB.out | apply below_alloc | apply pw_below_drewN | apply below_drew1))) | (with_reducible refine Kd.C_alloc ?_ _) | (with_reducible refine Kd.C_drewN ?_ _) | (with_reducible refine Kd.C_drew ?_))); (case side2 => exact HC1.out); rintro e w' ⟨rfl, ⟨nd, rfl⟩⟩; refine ⟨_, rfl, ?_⟩))
       go_ret
       exact ⟨by first | rfl | (simp [errW_none, errW_some] <;> rfl) | (simp [*, errW_none, errW_some] <;> rfl), by repeat (first | (with_reducible first | exact HB.out | apply below_alloc | apply pw_below_drewN | apply below_drew1) | exact HB.out)⟩
      ·rw [if_neg c10] at H
       have c10b0 : decide (t339 < t338) = false := decide_eq_false c10
       clear c10
       have H' := Aside0.mk H
       clear H
       go_wp2_with (first | ((with_reducible refine gate_callee (f := 75) rfl ?_); refine goesL_ (some 18) rfl rfl Try.func75 (by kernel_rfl) rfl #[.slice A0 l0.length c0, .int .i64 x5_1] rfl (by (try simp only [List.map_toArray, List.map_cons, List.map_nil]); first | done | rfl | (simp only [List.length_drop, List.length_take]; rfl)) ?_; (with_reducible refine (assayerref1_at.calls _ _ l0 x5_1 t336 _ ?side1 ?side2 A5.out).mono ?_); (case side1 => repeat (first | exact (Kd.C_below HR0.out HB.out) | (with_reducible refine Kd.C_alloc ?_ _) | (with_reducible refine Kd.C_drewN ?_ _) | (with_reducible refine Kd.C_drew ?_))); (case side2 => exact HC0.out); rintro e w' ⟨rfl, ⟨nd, rfl⟩⟩; refine ⟨_, rfl, ?_⟩) | ((with_reducible refine gate_callee (f := 75) rfl ?_); refine goesL_ (some 21) rfl rfl Try.func75 (by kernel_rfl) rfl #[.slice A1 l1.length c1, .int .i64 x5_1] rfl (by (try simp only [List.map_toArray, List.map_cons, List.map_nil]); first | done | rfl | (simp only [List.length_drop, List.length_take]; rfl)) ?_; (with_reducible refine (assayerref1_at.calls _ _ l1 x5_1 t337 _ ?side1 ?side2 A6.out).mono ?_); (case side1 => repeat (first | exact (Kd.C_below HR1.out (by with_reducible repeat (first | exact HB.out | apply below_alloc | apply pw_below_drewN | apply below_drew1))) | (with_reducible refine Kd.C_alloc ?_ _) | (with_reducible refine Kd.C_drewN ?_ _) | (with_reducible refine Kd.C_drew ?_))); (case side2 => exact HC1.out); rintro e w' ⟨rfl, ⟨nd, rfl⟩⟩; refine ⟨_, rfl, ?_⟩) | ((with_reducible refine gate_callee (f := 75) rfl ?_); refine goesL_ (some 25) rfl rfl Try.func75 (by kernel_rfl) rfl #[.slice A0 l0.length c0, .int .i64 x5_1] rfl (by (try simp only [List.map_toArray, List.map_cons, List.map_nil]); first | done | rfl | (simp only [List.length_drop, List.length_take]; rfl)) ?_; (with_reducible refine (assayerref1_at.calls _ _ l0 x5_1 t338 _ ?side1 ?side2 A8.out).mono ?_); (case side1 => repeat (first | exact (Kd.C_below HR0.out (by with_reducible repeat (first | exact HB.out | apply below_alloc | apply pw_below_drewN | apply below_drew1))) | (with_reducible refine Kd.C_alloc ?_ _) | (with_reducible refine Kd.C_drewN ?_ _) | (with_reducible refine Kd.C_drew ?_))); (case side2 => exact HC0.out); rintro e w' ⟨rfl, ⟨nd, rfl⟩⟩; refine ⟨_, rfl, ?_⟩) | ((with_reducible refine gate_callee (f := 75) rfl ?_); refine goesL_ (some 28) rfl rfl Try.func75 (by kernel_rfl) rfl #[.slice A1 l1.length c1, .int .i64 x5_1] rfl (by (try simp only [List.map_toArray, List.map_cons, List.map_nil]); first | done | rfl | (simp only [List.length_drop, List.length_take]; rfl)) ?_; (with_reducible refine (assayerref1_at.calls _ _ l1 x5_1 t339 _ ?side1 ?side2 A9.out).mono ?_); (case side1 => repeat (first | exact (Kd.C_below HR1.out (by with_reducible repeat (first | exact HB.out | apply below_alloc | apply pw_below_drewN | apply below_drew1))) | (with_reducible refine Kd.C_alloc ?_ _) | (with_reducible refine Kd.C_drewN ?_ _) | (with_reducible refine Kd.C_drew ?_))); (case side2 => exact HC1.out); rintro e w' ⟨rfl, ⟨nd, rfl⟩⟩; refine ⟨_, rfl, ?_⟩))
       go_roundg k1
       case measure => have := HK1.out; omega
       case rel => exact ⟨(wrap64 (x5_1 - 1)), (by first | rfl | (simp; done) | (simp [*]; done)), H', ⟨by have := HK1.out; omega⟩, ⟨by repeat (first | (with_reducible first | exact HB.out | apply below_alloc | apply pw_below_drewN | apply below_drew1) | exact HB.out)⟩⟩
    ·rw [if_neg c4] at H
     have c4b0 : decide (0 ≤ x5_1) = false := decide_eq_false c4
     clear c4
     obtain rfl := Option.some.inj H
     go_wp2
     go_ret
     exact ⟨by first | rfl | (simp [errW_none, errW_some] <;> rfl) | (simp [*, errW_none, errW_some] <;> rfl), by repeat (first | (with_reducible first | exact HB.out | apply below_alloc | apply pw_below_drewN | apply below_drew1) | exact HB.out)⟩
 ·rw [if_neg c3] at H
  have c3i := eq_false c3
  have c3b0 : decide ((l0.length : Int) < (l1.length : Int)) = false := decide_eq_false c3
  have c3b1 : decide (l0.length < l1.length) = false := decide_eq_false (fun h => c3 (Int.ofNat_lt.mpr h))
  clear c3
  have H' := Aside0.mk H
  clear H
  go_enter Try.func43, Try.ntmps43
  go_wp2
  go_loopg [5] k (fun kq v5 w' => ∃ (x5_1 : Int), v5 = .int .i64 x5_1 ∧ Aside0 (assayerref1_Cmp.l0 kq l0 l1 x5_1 = some r) ∧ Aside0 (kq ≤ k) ∧ Aside0 (Below w.heap.size w w'))
  case atStart => exact ⟨(wrap64 ((l0.length : Int) - 1)), (by first | rfl | (simp; done) | (simp [*]; done)), H', ⟨Nat.le_refl _⟩, ⟨by repeat (first | (with_reducible first | exact HB.out | apply below_alloc | apply pw_below_drewN | apply below_drew1) | exact HB.out)⟩⟩
  case round =>
   clear H'
   try clear c1
   try clear p2
   try clear c3
   try clear c3b0
   try clear c3b1
   try clear c4
   try clear c4b0
   try clear p6
   try clear c7
   try clear c7b0
   try clear c10
   try clear c10b0
   try clear p2
   obtain ⟨x5_1, rfl, HA, HK1, HB⟩ := hrel
   cases gk with
   | zero => exact absurd HA.out (by simp [assayerref1_Cmp.l0])
   | succ k1 =>
    have H := HA.out
    clear HA
    simp only [assayerref1_Cmp.l0] at H
    by_cases c11 : x5_1 ≥ 0
    ·rw [if_pos c11] at H
     have c11b0 : decide (0 ≤ x5_1) = true := decide_eq_true c11
     clear c11
     replace H := Option.bind_eq_some_iff.mp H
     obtain ⟨t336, A120, H⟩ := H
     replace H : ((assayerref1_at.f l1 x5_1).bind fun t337 => (if t336 < t337 then (some (-1)) else ((assayerref1_at.f l0 x5_1).bind fun t338 => ((assayerref1_at.f l1 x5_1).bind fun t339 => (if t338 > t339 then (some 1) else (assayerref1_Cmp.l0 k1 l0 l1 (wrap64 (x5_1 - 1)))))))) = some r := H
     have A12 := Aside0.mk A120
     clear A120
     replace H := Option.bind_eq_some_iff.mp H
     obtain ⟨t337, A130, H⟩ := H
     replace H : (if t336 < t337 then (some (-1)) else ((assayerref1_at.f l0 x5_1).bind fun t338 => ((assayerref1_at.f l1 x5_1).bind fun t339 => (if t338 > t339 then (some 1) else (assayerref1_Cmp.l0 k1 l0 l1 (wrap64 (x5_1 - 1))))))) = some r := H
     have A13 := Aside0.mk A130
     clear A130
     by_cases c14 : t336 < t337
     ·rw [if_pos c14] at H
      have c14b0 : decide (t336 < t337) = true := decide_eq_true c14
      clear c14
      obtain rfl := Option.some.inj H
      go_wp2_with (first | ((with_reducible refine gate_callee (f := 75) rfl ?_); refine goesL_ (some 18) rfl rfl Try.func75 (by kernel_rfl) rfl #[.slice A0 l0.length c0, .int .i64 x5_1] rfl (by (try simp only [List.map_toArray, List.map_cons, List.map_nil]); first | done | rfl | (simp only [List.length_drop, List.length_take]; rfl)) ?_; (with_reducible refine (assayerref1_at.calls _ _ l0 x5_1 t336 _ ?side1 ?side2 A12.out).mono ?_); (case side1 => repeat (first | exact (Kd.C_below HR0.out HB.out) | (with_reducible refine Kd.C_alloc ?_ _) | (with_reducible refine Kd.C_drewN ?_ _) | (with_reducible refine Kd.C_drew ?_))); (case side2 => exact HC0.out); rintro e w' ⟨rfl, ⟨nd, rfl⟩⟩; refine ⟨_, rfl, ?_⟩) | ((with_reducible refine gate_callee (f := 75) rfl ?_); refine goesL_ (some 21) rfl rfl Try.func75 (by kernel_rfl) rfl #[.slice A1 l1.length c1, .int .i64 x5_1] rfl (by (try simp only [List.map_toArray, List.map_cons, List.map_nil]); first | done | rfl | (simp only [List.length_drop, List.length_take]; rfl)) ?_; (with_reducible refine (assayerref1_at.calls _ _ l1 x5_1 t337 _ ?side1 ?side2 A13.out).mono ?_); (case side1 => repeat (first | exact (Kd.C_below HR1.out (by with_reducible repeat (first | exact HB.out | apply below_alloc | apply pw_below_drewN | apply below_drew1))) | (with_reducible refine Kd.C_alloc ?_ _) | (with_reducible refine Kd.C_drewN ?_ _) | (with_reducible refine Kd.C_drew ?_))); (case side2 => exact HC1.out); rintro e w' ⟨rfl, ⟨nd, rfl⟩⟩; refine ⟨_, rfl, ?_⟩))
      go_ret
      exact ⟨by first | rfl | (simp [errW_none, errW_some] <;> rfl) | (simp [*, errW_none, errW_some] <;> rfl), by repeat (first | (with_reducible first | exact HB.out | apply below_alloc | apply pw_below_drewN | apply below_drew1) | exact HB.out)⟩
     ·rw [if_neg c14] at H
      have c14b0 : decide (t336 < t337) = false := decide_eq_false c14
      clear c14
      replace H := Option.bind_eq_some_iff.mp H
      obtain ⟨t338, A150, H⟩ := H
      replace H : ((assayerref1_at.f l1 x5_1).bind fun t339 => (if t338 > t339 then (some 1) else (assayerref1_Cmp.l0 k1 l0 l1 (wrap64 (x5_1 - 1))))) = some r := H
      have A15 := Aside0.mk A150
      clear A150
      replace H := Option.bind_eq_some_iff.mp H
      obtain ⟨t339, A160, H⟩ := H
      replace H : (if t338 > t339 then (some 1) else (assayerref1_Cmp.l0 k1 l0 l1 (wrap64 (x5_1 - 1)))) = some r := H
      have A16 := Aside0.mk A160
      clear A160
      by_cases c17 : t338 > t339
      ·rw [if_pos c17] at H
       have c17b0 : decide (t339 < t338) = true := decide_eq_true c17
       clear c17
       obtain rfl := Option.some.inj H
       go_wp2_with (first | ((with_reducible refine gate_callee (f := 75) rfl ?_); refine goesL_ (some 18) rfl rfl Try.func75 (by kernel_rfl) rfl #[.slice A0 l0.length c0, .int .i64 x5_1] rfl (by (try simp only [List.map_toArray, List.map_cons, List.map_nil]); first | done | rfl | (simp only [List.length_drop, List.length_take]; rfl)) ?_; (with_reducible refine (assayerref1_at.calls _ _ l0 x5_1 t336 _ ?side1 ?side2 A12.out).mono ?_); (case side1 => repeat (first | exact (Kd.C_below HR0.out HB.out) | (with_reducible refine Kd.C_alloc ?_ _) | (with_reducible refine Kd.C_drewN ?_ _) | (with_reducible refine Kd.C_drew ?_))); (case side2 => exact HC0.out); rintro e w' ⟨rfl, ⟨nd, rfl⟩⟩; refine ⟨_, rfl, ?_⟩) | ((with_reducible refine gate_callee (f := 75) rfl ?_); refine goesL_ (some 21) rfl rfl Try.func75 (by kernel_rfl) rfl #[.slice A1 l1.length c1, .int .i64 x5_1] rfl (by (try simp only [List.map_toArray, List.map_cons, List.map_nil]); first | done | rfl | (simp only [List.length_drop, List.length_take]; rfl)) ?_; (with_reducible refine (assayerref1_at.calls _ _ l1 x5_1 t337 _ ?side1 ?side2 A13.out).mono ?_); (case side1 => repeat (first | exact (Kd.C_below HR1.out (by with_reducible repeat (first | exact HB.out | apply below_alloc | apply pw_below_drewN | apply below_drew1))) | (with_reducible refine Kd.C_alloc ?_ _) | (with_reducible refine Kd.C_drewN ?_ _) | (with_reducible refine Kd.C_drew ?_))); (case side2 => exact HC1.out); rintro e w' ⟨rfl, ⟨nd, rfl⟩⟩; refine ⟨_, rfl, ?_⟩) | ((with_reducible refine gate_callee (f := 75) rfl ?_); refine goesL_ (some 25) rfl rfl Try.func75 (by kernel_rfl) rfl #[.slice A0 l0.length c0, .int .i64 x5_1] rfl (by (try simp only [List.map_toArray, List.map_cons, List.map_nil]); first | done | rfl | (simp only [List.length_drop, List.length_take]; rfl)) ?_; (with_reducible refine (assayerref1_at.calls _ _ l0 x5_1 t338 _ ?side1 ?side2 A15.out).mono ?_); (case side1 => repeat (first | exact (Kd.C_below HR0.out (by with_reducible repeat (first | exact HB.out | apply below_alloc | apply pw_below_drewN | apply below_drew1))) | (with_reducible refine Kd.C_alloc ?_ _) | (with_reducible refine Kd.C_drewN ?_ _) | (with_reducible refine Kd.C_drew ?_))); (case side2 => exact HC0.out); rintro e w' ⟨rfl, ⟨nd, rfl⟩⟩; refine ⟨_, rfl, ?_⟩) | ((with_reducible refine gate_callee (f := 75) rfl ?_); refine goesL_ (some 28) rfl rfl Try.func75 (by kernel_rfl) rfl #[.slice A1 l1.length c1, .int .i64 x5_1] rfl (by (try simp only [List.map_toArray, List.map_cons, List.map_nil]); first | done | rfl | (simp only [List.length_drop, List.length_take]; rfl)) ?_; (with_reducible refine (assayerref1_at.calls _ _ l1 x5_1 t339 _ ?side1 ?side2 A16.out).mono ?_); (case side1 => repeat (first | exact (Kd.C_below HR1.out (by with_reducible repeat (first | exact HB.out | apply below_alloc | apply pw_below_drewN | apply below_drew1))) | (with_reducible refine Kd.C_alloc ?_ _) | (with_reducible refine Kd.C_drewN ?_ _) | (with_reducible refine Kd.C_drew ?_))); (case side2 => exact HC1.out); rintro e w' ⟨rfl, ⟨nd, rfl⟩⟩; refine ⟨_, rfl, ?_⟩))
       go_ret
       exact ⟨by first | rfl | (simp [errW_none, errW_some] <;> rfl) | (simp [*, errW_none, errW_some] <;> rfl), by repeat (first | (with_reducible first | exact HB.out | apply below_alloc | apply pw_below_drewN | apply below_drew1) | exact HB.out)⟩
      ·rw [if_neg c17] at H
       have c17b0 : decide (t339 < t338) = false := decide_eq_false c17
       clear c17
       have H' := Aside0.mk H
       clear H
       go_wp2_with (first | ((with_reducible refine gate_callee (f := 75) rfl ?_); refine goesL_ (some 18) rfl rfl Try.func75 (by kernel_rfl) rfl #[.slice A0 l0.length c0, .int .i64 x5_1] rfl (by (try simp only [List.map_toArray, List.map_cons, List.map_nil]); first | done | rfl | (simp only [List.length_drop, List.length_take]; rfl)) ?_; (with_reducible refine (assayerref1_at.calls _ _ l0 x5_1 t336 _ ?side1 ?side2 A12.out).mono ?_); (case side1 => repeat (first | exact (Kd.C_below HR0.out HB.out) | (with_reducible refine Kd.C_alloc ?_ _) | (with_reducible refine Kd.C_drewN ?_ _) | (with_reducible refine Kd.C_drew ?_))); (case side2 => exact HC0.out); rintro e w' ⟨rfl, ⟨nd, rfl⟩⟩; refine ⟨_, rfl, ?_⟩) | ((with_reducible refine gate_callee (f := 75) rfl ?_); refine goesL_ (some 21) rfl rfl Try.func75 (by kernel_rfl) rfl #[.slice A1 l1.length c1, .int .i64 x5_1] rfl (by (try simp only [List.map_toArray, List.map_cons, List.map_nil]); first | done | rfl | (simp only [List.length_drop, List.length_take]; rfl)) ?_; (with_reducible refine (assayerref1_at.calls _ _ l1 x5_1 t337 _ ?side1 ?side2 A13.out).mono ?_); (case side1 => repeat (first | exact (Kd.C_below HR1.out (by with_reducible repeat (first | exact HB.out | apply below_alloc | apply pw_below_drewN | apply below_drew1))) | (with_reducible refine Kd.C_alloc ?_ _) | (with_reducible refine Kd.C_drewN ?_ _) | (with_reducible refine Kd.C_drew ?_))); (case side2 => exact HC1.out); rintro e w' ⟨rfl, ⟨nd, rfl⟩⟩; refine ⟨_, rfl, ?_⟩) | ((with_reducible refine gate_callee (f := 75) rfl ?_); refine goesL_ (some 25) rfl rfl Try.func75 (by kernel_rfl) rfl #[.slice A0 l0.length c0, .int .i64 x5_1] rfl (by (try simp only [List.map_toArray, List.map_cons, List.map_nil]); first | done | rfl | (simp only [List.length_drop, List.length_take]; rfl)) ?_; (with_reducible refine (assayerref1_at.calls _ _ l0 x5_1 t338 _ ?side1 ?side2 A15.out).mono ?_); (case side1 => repeat (first | exact (Kd.C_below HR0.out (by with_reducible repeat (first | exact HB.out | apply below_alloc | apply pw_below_drewN | apply below_drew1))) | (with_reducible refine Kd.C_alloc ?_ _) | (with_reducible refine Kd.C_drewN ?_ _) | (with_reducible refine Kd.C_drew ?_))); (case side2 => exact HC0.out); rintro e w' ⟨rfl, ⟨nd, rfl⟩⟩; refine ⟨_, rfl, ?_⟩) | ((with_reducible refine gate_callee (f := 75) rfl ?_); refine goesL_ (some 28) rfl rfl Try.func75 (by kernel_rfl) rfl #[.slice A1 l1.length c1, .int .i64 x5_1] rfl (by (try simp only [List.map_toArray, List.map_cons, List.map_nil]); first | done | rfl | (simp only [List.length_drop, List.length_take]; rfl)) ?_; (with_reducible refine (assayerref1_at.calls _ _ l1 x5_1 t339 _ ?side1 ?side2 A16.out).mono ?_); (case side1 => repeat (first | exact (Kd.C_below HR1.out (by with_reducible repeat (first | exact HB.out | apply below_alloc | apply pw_below_drewN | apply below_drew1))) | (with_reducible refine Kd.C_alloc ?_ _) | (with_reducible refine Kd.C_drewN ?_ _) | (with_reducible refine Kd.C_drew ?_))); (case side2 => exact HC1.out); rintro e w' ⟨rfl, ⟨nd, rfl⟩⟩; refine ⟨_, rfl, ?_⟩))
       go_roundg k1
       case measure => have := HK1.out; omega
       case rel => exact ⟨(wrap64 (x5_1 - 1)), (by first | rfl | (simp; done) | (simp [*]; done)), H', ⟨by have := HK1.out; omega⟩, ⟨by repeat (first | (with_reducible first | exact HB.out | apply below_alloc | apply pw_below_drewN | apply below_drew1) | exact HB.out)⟩⟩
    ·rw [if_neg c11] at H
     have c11b0 : decide (0 ≤ x5_1) = false := decide_eq_false c11
     clear c11
     obtain rfl := Option.some.inj H
     go_wp2
     go_ret
     exact ⟨by first | rfl | (simp [errW_none, errW_some] <;> rfl) | (simp [*, errW_none, errW_some] <;> rfl), by repeat (first | (with_reducible first | exact HB.out | apply below_alloc | apply pw_below_drewN | apply below_drew1) | exact HB.out)⟩

end Go.Proofs.Ytgejdfhfgphcbaa.PBig
