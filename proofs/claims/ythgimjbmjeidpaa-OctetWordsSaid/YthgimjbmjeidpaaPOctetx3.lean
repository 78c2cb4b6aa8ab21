-- Written by xprint.py, a program of this session, out of the translation, by way of the kit's printer. Lean checks it.
import Derived.Test.YthgimjbmjeidpaaPOctetx0
import Derived.Test.YthgimjbmjeidpaaPOctetx1
import Derived.Test.YthgimjbmjeidpaaPOctetx2
namespace Go.Proofs.Ythgimjbmjeidpaa.POctet
open Go.RowKit Go.Proofs.YthgimjbmjeidpaaW.PrintWords Go.Proofs.YthgimjbmjeidpaaW.PrintLast Go.Proofs.YthgimjbmjeidpaaW.PrintMore
attribute [local go_sem] max2_int min2_int max_two min_two max_three min_three max_four min_four   -- for this text's walks alone
set_option linter.unusedVariables false
set_option linter.unusedSimpArgs false

/-! ### assayerlaw1_begun: function 30 (a contract of our own) -/
def assayerlaw1_begun.f : Option Bool := some true
set_option maxHeartbeats 8000000 in
set_option maxRecDepth 100000 in
theorem assayerlaw1_begun.calls (r : Bool) (w : World) (h : assayerlaw1_begun.f = some r) :
    Calls Try.prog 30 #[] w fun e w' => e = .returned (.bool r) ∧ Below w.heap.size w w' := by
  have er : true = r := Option.some.inj h
  subst er
  clear h
  have A1 := Aside0.mk (show octet_Take.f 90 [1, 2, 3] 2 = some (258, 0) by kernel_rfl)
  have A2 := Aside0.mk (show octet_PutText.f 90 [] ⟨#[120]⟩ = some [0, 0, 0, 1, 120] by kernel_rfl)
  have A3 := Aside0.mk (show octet_TakeText.f 90 [0, 0, 0, 1, 120] = some (⟨#[120]⟩, 5, 0) by kernel_rfl)
  have A4 := Aside0.mk (show octet_Seal.f 90 [7] = some [0, 0, 1, 7, 134, 183, 55, 186] by kernel_rfl)
  have A5 := Aside0.mk (show octet_Unseal.f 90 [0, 0, 1, 7, 134, 183, 55, 186] = some ([7], 8, 0) by kernel_rfl)
  have A6 := Aside0.mk (show octet_Sum.f 90 [49, 50, 51, 52, 53, 54, 55, 56, 57] = some 3808858755 by kernel_rfl)
  have A7 := Aside0.mk (show octet_Put.f 90 [9] 258 2 = some [9, 1, 2] by kernel_rfl)
  have kc := fun (w : World) (C : Array Value) (n c : Nat) => Lib.run_convert_bytes_const (P := Try.prog) w 24 5 C n c Try.underlying24 Try.underlying5
  have HB := Aside0.mk (Below.refl w.heap.size w)
  go_enter Try.func30, Try.ntmps30
  go_wp2_with (first
    | (go_at_call 31; refine (octet_Take.calls 90 _ _ [1, 2, 3] 2 258 0 _ (lit_C _ 5 .u8 [1, 2, 3] (by decide)) (by decide) A1.out).mono ?_; rintro e w' ⟨rfl, ⟨nd, rfl⟩⟩; have HB2 := Aside0.mk (pw_below_drewN (below_alloc HB.out (.cells #[.int .u8 1, .int .u8 2, .int .u8 3] 5)) nd); clear HB; have HB := HB2; clear HB2)
    | (go_at_call 37; refine (octet_PutText.calls 90 _ _ [] ⟨#[120]⟩ _ _ (Kd.C_nil _ _) (by decide) A2.out).mono ?_; rintro e w2 ⟨v0, rfl, ho, hb⟩; have HB2 := Aside0.mk (below_step HB.out hb); clear HB; have HB := HB2; clear HB2 hb; obtain ⟨Aa, ca, ea, hla, hra⟩ := Kd.R_reads ho; subst ea; have HR := Aside0.mk hra; have HL := Aside0.mk hla; clear hra hla ho)
    | (go_at_call 35; refine (octet_TakeText.calls 90 _ _ [0, 0, 0, 1, 120] ⟨#[120]⟩ 5 0 _ HR.out HL.out A3.out).mono ?_; rintro e w' ⟨rfl, ⟨nd2, rfl⟩⟩; have HB2 := Aside0.mk (pw_below_drewN HB.out nd2); clear HB HR HL; have HB := HB2; clear HB2)
    | (go_at_call 40; refine (octet_Seal.calls 90 _ _ [7] _ _ (lit_C _ 5 .u8 [7] (by decide)) (by decide) A4.out).mono ?_; rintro e w3 ⟨v1, rfl, ho, hb⟩; have HB2 := Aside0.mk (below_step (below_alloc HB.out (.cells #[.int .u8 7] 5)) hb); clear HB; have HB := HB2; clear HB2 hb; obtain ⟨Ab, cb, eb, hlb, hrb⟩ := Kd.R_reads ho; subst eb; have HR := Aside0.mk hrb; have HL := Aside0.mk hlb; clear hrb hlb ho)
    | (go_at_call 38; refine (octet_Unseal.calls 90 _ _ [0, 0, 1, 7, 134, 183, 55, 186] _ _ _ _ HR.out HL.out A5.out).mono ?_; rintro e w4 ⟨v2, rfl, ho, hb⟩; have HB2 := Aside0.mk (below_step HB.out hb); clear HB HR HL; have HB := HB2; clear HB2 hb; obtain ⟨Ac, cc, ec, hlc, hrc⟩ := Kd.R_reads ho; subst ec; have hcv : (convert 24 9 (.slice Ac 1 cc)).run Try.prog w4 = .ok (.string ⟨#[7]⟩) w4 := (Kd.C_string (P := Try.prog) (A := Ac) (c := cc) Try.underlying24 Try.underlying5 Try.underlying9 hrc).trans (by rw [show strOfNums [7] = (⟨#[7]⟩ : ByteArray) by kernel_rfl]); clear hrc hlc ho)
    | (go_at_call 41; refine (octet_Sum.calls 90 (some ⟨w4.heap.size, 0, none⟩) 9 [49, 50, 51, 52, 53, 54, 55, 56, 57] 3808858755 _ (lit_C_marked w4 5 .u8 [49, 50, 51, 52, 53, 54, 55, 56, 57] 9 10 (by decide)) (by decide) A6.out).mono ?_; rintro e w' ⟨rfl, ⟨nd3, rfl⟩⟩; have HB2 := Aside0.mk (pw_below_drewN (below_alloc HB.out (.cells #[.int .u8 49, .int .u8 50, .int .u8 51, .int .u8 52, .int .u8 53, .int .u8 54, .int .u8 55, .int .u8 56, .int .u8 57] 5 (9, 10))) nd3); clear HB; have HB := HB2; clear HB2)
    | (go_at_call 33; refine (octet_Put.calls 90 (some ⟨w4.heap.size + 1, 0, none⟩) 1 [9] 258 2 [9, 1, 2] _ (lit_Cg ((w4.alloc (.cells (nums .u8 [49, 50, 51, 52, 53, 54, 55, 56, 57]).toArray 5 (9, 10))).drewN nd3) 5 .u8 [9] (w4.heap.size + 1) (by simp) (by decide)) (by decide) A7.out).mono ?_; rintro e w5 ⟨v3, rfl, ho, hb⟩; have HB2 := Aside0.mk (below_step (below_alloc HB.out (.cells #[.int .u8 9] 5)) hb); clear HB; have HB := HB2; clear HB2 hb; obtain ⟨Ad, cd, ed, hld, hrd⟩ := Kd.R_reads ho; subst ed; have hcw : (convert 24 9 (.slice Ad 3 cd)).run Try.prog w5 = .ok (.string ⟨#[9, 1, 2]⟩) w5 := (Kd.C_string (P := Try.prog) (A := Ad) (c := cd) Try.underlying24 Try.underlying5 Try.underlying9 hrd).trans (by rw [show strOfNums [9, 1, 2] = (⟨#[9, 1, 2]⟩ : ByteArray) by kernel_rfl]); clear hrd hld ho))
  go_ret
  exact ⟨rfl, HB.out⟩

end Go.Proofs.Ythgimjbmjeidpaa.POctet
