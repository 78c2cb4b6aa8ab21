/- What the law DiskMoves comes to, however it is run. -/
import Derived.Test.YthclmjelknibhaaDKall
import Derived.Test.YthclmjelknibhaaDskC
namespace Go.Proofs.Ythclmjelknibhaa.Ev
open Go Go.RowKit
set_option linter.unusedVariables false
theorem walkDiskMoves (W : World) (a : Option Addr) (len cap : Nat) (z : List Int) (hs : SliceArg W .u8 a len cap z) (a' : Option Addr) (len' cap' : Nat) (z' : List Int) (hs' : SliceArg W .u8 a' len' cap' z') (sy : Bool) (p : Int) (hp : (Lit.int .u8 p).wf = true) :
    Calls Try.prog 5 #[.slice a len cap, .slice a' len' cap', .bool sy, .int .u8 p] W fun e W' => e = .returned (.bool true) ∧ Below W.heap.size W W' := by
  obtain ⟨ρ, S, F, fv, ms, h1, h2, h3, h4, h5, h6, h7, h8⟩ := arg_by (RelW.empty W) UR.empty Wf.empty hs
  obtain ⟨ρ', S', F', fv', ms', g1, g2, g3, g4, g5, g6, g7, g8⟩ := arg_by h1 h2 h8 hs'
  have hp2 := numV_u8 hp
  obtain ⟨R, h⟩ := s5 400 (by omega) g8 (h5.std g7 (fun _ _ _ _ _ _ q => q)) g5 h6 g6 sy p.toNat hp2.2
  refine mainU_ok dsk_mixed dsk_is dsk_X dskD_ok (f := 5) (xf := f5) (args := [fv, fv', .t sy, .b p.toNat]) rfl g2 g1 ⟨rfl, fun i h => ?_⟩ (by rw [h]; rfl)
  simp only [toVs, List.size_toArray, List.length_cons, List.length_nil] at h
  have hi : i = 0 ∨ i = 1 ∨ i = 2 ∨ i = 3 := by omega
  rcases hi with rfl | rfl | rfl | rfl
  · exact fun _ => h4.mono g3
  · exact fun _ => g4
  · exact fun _ => .bool _
  · intro _
    show VRel _ (toV (.b p.toNat)) _
    rw [← hp2.1, numV_to]; exact .int _ _
end Go.Proofs.Ythclmjelknibhaa.Ev
