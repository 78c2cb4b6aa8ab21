-- Written by xprint.py, a program of this session, out of the translation, by way of the kit's printer. Lean checks it.
import Derived.Test.YthgimjbmjeidpaaPZigx0
import Derived.Test.YthgimjbmjeidpaaPZigx4
namespace Go.Proofs.Ythgimjbmjeidpaa.PZig
open Go.RowKit Go.Proofs.YthgimjbmjeidpaaW.PrintWords Go.Proofs.YthgimjbmjeidpaaW.PrintLast Go.Proofs.YthgimjbmjeidpaaW.PrintMore
attribute [local go_sem] max2_int min2_int max_two min_two max_three min_three max_four min_four   -- for this text's walks alone
set_option linter.unusedVariables false
set_option linter.unusedSimpArgs false

/-! ### assayerlaw0_Kept: function 28 (a contract of our own) -/
def assayerlaw0_Kept.f (l0 l1 : List Int) : Option (Bool) := if l0 = l1 ∧ l0.length ≤ 1000 then some true else none
set_option maxHeartbeats 8000000 in
set_option maxRecDepth 100000 in
theorem assayerlaw0_Kept.calls (A0 : Option Addr) (c0 : Nat) (l0 : List Int) (A1 : Option Addr) (c1 : Nat) (l1 : List Int) (r : Bool) (w : World) (hr0 : Kd.C (Kd.int .u8) w A0 l0.length l0) (hc0 : l0.length ≤ c0) (hr1 : Kd.C (Kd.int .u8) w A1 l1.length l1) (hc1 : l1.length ≤ c1)
    (hw : assayerlaw0_Twin.Whole w (.slice A0 l0.length c0) l0) (h : assayerlaw0_Kept.f l0 l1 = some r) :
    Calls Try.prog 28 #[.slice A0 l0.length c0, .slice A1 l1.length c1] w fun e w' => e = .returned (.bool r) ∧ Drawn0 w w' := by
  unfold assayerlaw0_Kept.f at h
  by_cases c : l0 = l1 ∧ l0.length ≤ 1000
  · rw [if_pos c] at h
    obtain rfl := Option.some.inj h
    obtain ⟨rfl, hl⟩ := c
    clear h
    obtain ⟨g, e, hW⟩ := hw
    cases e
    have e5 : wrap64 ((l0.length : Int) + 5) = (l0.length : Int) + 5 := by unfold wrap64; omega
    have e7 : IntKind.i64.wrap ((l0.length : Int) + 5) = (l0.length : Int) + 5 := (i64_w _).trans e5
    have e6 : ((l0.length : Int) + 5).toNat = l0.length + 5 := by omega
    have b1 : (0 ≤ (l0.length : Int) + 5) = True := eq_true (by omega)
    have b3 : ((l0.length : Int) + 5 < 0) = False := eq_false (by omega)
    have el : (l0 ++ [115, 112, 97, 114, 101]).length = l0.length + 5 := by rw [List.length_append]; rfl
    rw [el] at hW
    have hcv1 := fun n : Nat => Kd.C_string (P := Try.prog) (A := some ⟨g, 0, none⟩) (c := l0.length + 5) Try.underlying24 Try.underlying5 Try.underlying9 (Kd.C_drewN hW n)
    have hcv2 := fun n : Nat => Kd.C_string (P := Try.prog) (A := A1) (c := c1) Try.underlying24 Try.underlying5 Try.underlying9 (Kd.C_drewN hr1 n)
    have es : strOfNums (l0 ++ [115, 112, 97, 114, 101]) = strOfNums l0 ++ (⟨#[115, 112, 97, 114, 101]⟩ : ByteArray) := by
      unfold strOfNums
      apply ByteArray.ext
      simp
    have ez : (strOfNums l0).size = l0.length := by simp [strOfNums, ByteArray.size]
    have z1 : ((strOfNums l0).size + 5 ≤ 9223372036854775807) = True := eq_true (by omega)
    have z2 : ((strOfNums l0).size + (⟨#[115, 112, 97, 114, 101]⟩ : ByteArray).size ≤ 9223372036854775807) = True := eq_true (by show (strOfNums l0).size + 5 ≤ _; omega)
    have q1 : ((strOfNums (l0 ++ [115, 112, 97, 114, 101])).toList == (strOfNums l0 ++ (⟨#[115, 112, 97, 114, 101]⟩ : ByteArray)).toList) = true := by rw [es]; exact beq_self_eq_true _
    go_enter Try.func28, Try.ntmps28
    go_wp2
    go_quiet (fail)
    go_wp2
    go_ret
    exact ⟨rfl, ⟨nq, rfl⟩⟩
  · rw [if_neg c] at h
    cases h

end Go.Proofs.Ythgimjbmjeidpaa.PZig
