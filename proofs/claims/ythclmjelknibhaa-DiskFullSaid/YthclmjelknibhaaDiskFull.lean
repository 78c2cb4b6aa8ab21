/- What the law DiskFull comes to, however it is run. -/
import Derived.Test.YthclmjelknibhaaDKall
import Derived.Test.YthclmjelknibhaaDskC
namespace Go.Proofs.Ythclmjelknibhaa.Ev
open Go Go.RowKit
set_option linter.unusedVariables false
theorem walkDiskFull (W : World) (p : Int) (hp : (Lit.int .u8 p).wf = true) (a : Option Addr) (len cap : Nat) (z : List Int) (hs : SliceArg W .u8 a len cap z) :
    Calls Try.prog 6 #[.int .u8 p, .slice a len cap] W fun e W' => e = .returned (.bool true) ∧ Below W.heap.size W W' := by
  obtain ⟨ρ, S, F, fv, ms, h1, h2, h3, h4, h5, h6, h7, h8⟩ := arg_by (RelW.empty W) UR.empty Wf.empty hs
  have hp2 := numV_u8 hp
  obtain ⟨R, h⟩ := s6 400 (by omega) h8 p.toNat hp2.2 h5 h6
  refine mainU_ok dsk_mixed dsk_is dsk_X dskD_ok (f := 6) (xf := f6) (args := [.b p.toNat, fv]) rfl h2 h1 ⟨rfl, fun i h => ?_⟩ (by rw [h]; rfl)
  simp only [toVs, List.size_toArray, List.length_cons, List.length_nil] at h
  have hi : i = 0 ∨ i = 1 := by omega
  rcases hi with rfl | rfl
  · intro _
    show VRel _ (toV (.b p.toNat)) _
    rw [← hp2.1, numV_to]; exact .int _ _
  · exact fun _ => h4
end Go.Proofs.Ythclmjelknibhaa.Ev
