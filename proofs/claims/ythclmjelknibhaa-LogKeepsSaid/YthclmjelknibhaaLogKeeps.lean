/- What the law LogKeeps comes to, however it is run. -/
import Derived.Test.YthclmjelknibhaaDOall
import Derived.Test.YthclmjelknibhaaDskC
namespace Go.Proofs.Ythclmjelknibhaa.Ev
open Go Go.RowKit
set_option linter.unusedVariables false
theorem walkLogKeeps (W : World) (v : Value) (ds : List (List Ld)) (hv : SA W [.by] v ds) (p : Int) (hp : (Lit.int .u8 p).wf = true) (q : Int) (hq : (Lit.int .u8 q).wf = true) (r : Int) (hr : (Lit.int .u8 r).wf = true) :
    Calls Try.prog 12 #[v, .int .u8 p, .int .u8 q, .int .u8 r] W fun e W' => e = .returned (.bool true) ∧ Below W.heap.size W W' := by
  have hp2 := numV_u8 hp
  have hq2 := numV_u8 hq
  have hr2 := numV_u8 hr
  obtain ⟨ρ1, S1, F1, v1, h1, u1, _, hv1, sr, _, w1⟩ := arg_structs (RelW.empty W) UR.empty Wf.empty (by decide) hv
  obtain ⟨rs, r1, r2⟩ := sr_rs sr
  obtain ⟨R, h⟩ := s12 900000 (by omega) w1 r1 r2 p.toNat q.toNat r.toNat hp2.2 hq2.2 hr2.2
  refine mainU_ok dsk_mixed dsk_is dsk_X dskD_ok (f := 12) (xf := f12) (args := [v1, .b p.toNat, .b q.toNat, .b r.toNat]) rfl u1 h1 ⟨rfl, fun i h => ?_⟩ (by rw [h]; rfl)
  simp only [toVs, List.size_toArray, List.length_cons, List.length_nil] at h
  have hi : i = 0 ∨ i = 1 ∨ i = 2 ∨ i = 3 := by omega
  rcases hi with rfl | rfl | rfl | rfl
  · exact fun _ => hv1
  · intro _
    show VRel _ (toV (.b p.toNat)) _
    rw [← hp2.1, numV_to]; exact .int _ _
  · intro _
    show VRel _ (toV (.b q.toNat)) _
    rw [← hq2.1, numV_to]; exact .int _ _
  · intro _
    show VRel _ (toV (.b r.toNat)) _
    rw [← hr2.1, numV_to]; exact .int _ _
end Go.Proofs.Ythclmjelknibhaa.Ev
