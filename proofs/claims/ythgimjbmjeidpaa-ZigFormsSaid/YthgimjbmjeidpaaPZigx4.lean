-- Written by xprint.py, a program of this session, out of the translation, by way of the kit's printer. Lean checks it.
import Derived.Test.YthgimjbmjeidpaaPZigx0
import Derived.Test.YthgimjbmjeidpaaPZigx1
import Derived.Test.YthgimjbmjeidpaaPZigx3
namespace Go.Proofs.Ythgimjbmjeidpaa.PZig
open Go.RowKit Go.Proofs.YthgimjbmjeidpaaW.PrintWords Go.Proofs.YthgimjbmjeidpaaW.PrintLast Go.Proofs.YthgimjbmjeidpaaW.PrintMore
attribute [local go_sem] max2_int min2_int max_two min_two max_three min_three max_four min_four   -- for this text's walks alone
set_option linter.unusedVariables false
set_option linter.unusedSimpArgs false

/-! ### assayerlaw2_ZigForms: function 6 (a contract of our own) -/
def assayerlaw2_ZigForms.f : Option Bool := some true
def assayerlaw2_ZigForms.Pure : Prop := True
set_option maxHeartbeats 8000000 in
set_option maxRecDepth 100000 in
theorem assayerlaw2_ZigForms.walk (_P : assayerlaw2_ZigForms.Pure) (w : World) :
    Calls Try.prog 6 #[] w fun e w' => e = .returned (.bool true) ∧ Below w.heap.size w w' := by
  have AB := Aside0.mk (show assayerlaw2_begun.f 100 = some true by kernel_rfl)
  have A0 := Aside0.mk (show zig_Take.f 100 [255, 255, 255, 255, 16] 32 = some (0, 0, 4) by kernel_rfl)
  have tok0 : True := trivial
  have A1 := Aside0.mk (show zig_Take.f 100 [255, 255, 255, 255, 15] 32 = some (4294967295, 5, 0) by kernel_rfl)
  have tok1 : True := trivial
  have A2 := Aside0.mk (show zig_Take.f 100 [128, 128, 128, 128, 128] 32 = some (0, 0, 4) by kernel_rfl)
  have tok2 : True := trivial
  have A3 := Aside0.mk (show zig_Take.f 100 [128, 128, 0] 32 = some (0, 3, 0) by kernel_rfl)
  have tok3 : True := trivial
  have A4 := Aside0.mk (show zig_Take.f 100 [128] 7 = some (0, 0, 4) by kernel_rfl)
  have tok4 : True := trivial
  have A5 := Aside0.mk (show zig_Take.f 100 [] 64 = some (0, 0, 3) by kernel_rfl)
  have tok5 : True := trivial
  have A6 := Aside0.mk (show zig_Take.f 100 [0] 0 = some (0, 0, 1) by kernel_rfl)
  have tok6 : True := trivial
  have A7 := Aside0.mk (show zig_Take.f 100 [0] 65 = some (0, 0, 1) by kernel_rfl)
  have tok7 : True := trivial
  have A8 := Aside0.mk (show zig_Take.f 100 [2] 1 = some (0, 0, 4) by kernel_rfl)
  have tok8 : True := trivial
  have AZ := Aside0.mk (show zig_Zig32.f (-2147483648) = some 4294967295 by kernel_rfl)
  have AY := Aside0.mk (show zig_Zig64.f (-9223372036854775808) = some 18446744073709551615 by kernel_rfl)
  have HB := Aside0.mk (Below.refl w.heap.size w)
  go_enter Try.func6, Try.ntmps6
  go_wp2_with (first
    | (go_at_call 14; refine (assayerlaw2_begun.calls 100 true _ AB.out).mono ?_; rintro e w1 ⟨rfl, hb⟩; have HB2 := Aside0.mk (below_step HB.out hb); clear HB; have HB := HB2; clear HB2 hb)
    | (have _t := tok0; clear _t; go_at_call 16; refine (zig_Take.calls 100 _ _ [255, 255, 255, 255, 16] 32 0 0 4 _ (lit_C _ 5 .u8 [255, 255, 255, 255, 16] (by decide)) (by decide) A0.out).mono ?_; rintro e w1 ⟨rfl, hd⟩; have HB2 := Aside0.mk (below_step (below_alloc HB.out (.cells #[.int .u8 255, .int .u8 255, .int .u8 255, .int .u8 255, .int .u8 16] 5)) hd.below); clear HB tok0; have HB := HB2; clear HB2 hd)
    | (have _t := tok1; clear _t; go_at_call 16; refine (zig_Take.calls 100 _ _ [255, 255, 255, 255, 15] 32 4294967295 5 0 _ (lit_C _ 5 .u8 [255, 255, 255, 255, 15] (by decide)) (by decide) A1.out).mono ?_; rintro e w1 ⟨rfl, hd⟩; have HB2 := Aside0.mk (below_step (below_alloc HB.out (.cells #[.int .u8 255, .int .u8 255, .int .u8 255, .int .u8 255, .int .u8 15] 5)) hd.below); clear HB tok1; have HB := HB2; clear HB2 hd)
    | (have _t := tok2; clear _t; go_at_call 16; refine (zig_Take.calls 100 _ _ [128, 128, 128, 128, 128] 32 0 0 4 _ (lit_C _ 5 .u8 [128, 128, 128, 128, 128] (by decide)) (by decide) A2.out).mono ?_; rintro e w1 ⟨rfl, hd⟩; have HB2 := Aside0.mk (below_step (below_alloc HB.out (.cells #[.int .u8 128, .int .u8 128, .int .u8 128, .int .u8 128, .int .u8 128] 5)) hd.below); clear HB tok2; have HB := HB2; clear HB2 hd)
    | (have _t := tok3; clear _t; go_at_call 16; refine (zig_Take.calls 100 _ _ [128, 128, 0] 32 0 3 0 _ (lit_C _ 5 .u8 [128, 128, 0] (by decide)) (by decide) A3.out).mono ?_; rintro e w1 ⟨rfl, hd⟩; have HB2 := Aside0.mk (below_step (below_alloc HB.out (.cells #[.int .u8 128, .int .u8 128, .int .u8 0] 5)) hd.below); clear HB tok3; have HB := HB2; clear HB2 hd)
    | (have _t := tok4; clear _t; go_at_call 16; refine (zig_Take.calls 100 _ _ [128] 7 0 0 4 _ (lit_C _ 5 .u8 [128] (by decide)) (by decide) A4.out).mono ?_; rintro e w1 ⟨rfl, hd⟩; have HB2 := Aside0.mk (below_step (below_alloc HB.out (.cells #[.int .u8 128] 5)) hd.below); clear HB tok4; have HB := HB2; clear HB2 hd)
    | (have _t := tok5; clear _t; go_at_call 16; refine (zig_Take.calls 100 none 0 [] 64 0 0 3 _ (Kd.C_nil _ _) (by decide) A5.out).mono ?_; rintro e w1 ⟨rfl, hd⟩; have HB2 := Aside0.mk (below_step HB.out hd.below); clear HB tok5; have HB := HB2; clear HB2 hd)
    | (have _t := tok6; clear _t; go_at_call 16; refine (zig_Take.calls 100 _ _ [0] 0 0 0 1 _ (lit_C _ 5 .u8 [0] (by decide)) (by decide) A6.out).mono ?_; rintro e w1 ⟨rfl, hd⟩; have HB2 := Aside0.mk (below_step (below_alloc HB.out (.cells #[.int .u8 0] 5)) hd.below); clear HB tok6; have HB := HB2; clear HB2 hd)
    | (have _t := tok7; clear _t; go_at_call 16; refine (zig_Take.calls 100 _ _ [0] 65 0 0 1 _ (lit_C _ 5 .u8 [0] (by decide)) (by decide) A7.out).mono ?_; rintro e w1 ⟨rfl, hd⟩; have HB2 := Aside0.mk (below_step (below_alloc HB.out (.cells #[.int .u8 0] 5)) hd.below); clear HB tok7; have HB := HB2; clear HB2 hd)
    | (have _t := tok8; clear _t; go_at_call 16; refine (zig_Take.calls 100 _ _ [2] 1 0 0 4 _ (lit_C _ 5 .u8 [2] (by decide)) (by decide) A8.out).mono ?_; rintro e w1 ⟨rfl, hd⟩; have HB2 := Aside0.mk (below_step (below_alloc HB.out (.cells #[.int .u8 2] 5)) hd.below); clear HB tok8; have HB := HB2; clear HB2 hd)
    | (go_at_call 18; refine (zig_Zig32.calls (-2147483648) 4294967295 _ AZ.out).mono ?_; rintro e w1 ⟨rfl, hd⟩; have HB2 := Aside0.mk (below_step HB.out hd.below); clear HB; have HB := HB2; clear HB2 hd)
    | (go_at_call 22; refine (zig_Zig64.calls (-9223372036854775808) 18446744073709551615 _ AY.out).mono ?_; rintro e w1 ⟨rfl, hd⟩; have HB2 := Aside0.mk (below_step HB.out hd.below); clear HB; have HB := HB2; clear HB2 hd))
  go_ret
  exact ⟨rfl, HB.out⟩

end Go.Proofs.Ythgimjbmjeidpaa.PZig
