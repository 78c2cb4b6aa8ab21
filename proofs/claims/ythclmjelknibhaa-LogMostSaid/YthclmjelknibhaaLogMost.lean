/- What the law LogMost comes to, however it is run. -/
import Derived.Test.YthclmjelknibhaaDOall
import Derived.Test.YthclmjelknibhaaDskC
namespace Go.Proofs.Ythclmjelknibhaa.Ev
open Go Go.RowKit
set_option linter.unusedVariables false
theorem walkLogMost (W : World) (p : Int) (hp : (Lit.int .u8 p).wf = true) (wide : Bool) :
    Calls Try.prog 9 #[.int .u8 p, .bool wide] W fun e W' => e = .returned (.bool true) ∧ Below W.heap.size W W' := by
  have hp2 := numV_u8 hp
  obtain ⟨R, h⟩ := s9 900000 (by omega) Wf.empty p.toNat hp2.2 wide
  refine mainU_ok dsk_mixed dsk_is dsk_X dskD_ok (f := 9) (xf := f9) (args := [.b p.toNat, .t wide]) rfl UR.empty (RelW.empty W) ⟨rfl, fun i h => ?_⟩ (by rw [h]; rfl)
  simp only [toVs, List.size_toArray, List.length_cons, List.length_nil] at h
  have hi : i = 0 ∨ i = 1 := by omega
  rcases hi with rfl | rfl
  · intro _
    show VRel _ (toV (.b p.toNat)) _
    rw [← hp2.1, numV_to]; exact .int _ _
  · exact fun _ => .bool _
end Go.Proofs.Ythclmjelknibhaa.Ev
