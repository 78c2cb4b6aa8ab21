/- What the law LogPacks comes to, however it is run. -/
import Derived.Test.YthclmjelknibhaaDOall
import Derived.Test.YthclmjelknibhaaDskC
namespace Go.Proofs.Ythclmjelknibhaa.Ev
open Go Go.RowKit
set_option linter.unusedVariables false
theorem walkLogPacks (W : World) (v : Value) (ds : List (List Ld)) (hv : SA W [.by] v ds) (w : Value) (es : List (List Ld)) (hv' : SA W [.by] w es) (p : Int) (hp : (Lit.int .u8 p).wf = true) (q : Int) (hq : (Lit.int .u8 q).wf = true) :
    Calls Try.prog 13 #[v, w, .int .u8 p, .int .u8 q] W fun e W' => e = .returned (.bool true) ∧ Below W.heap.size W W' := by
  have hp2 := numV_u8 hp
  have hq2 := numV_u8 hq
  obtain ⟨ρ1, S1, F1, v1, h1, u1, _, hv1, sr, _, w1⟩ := arg_structs (RelW.empty W) UR.empty Wf.empty (by decide) hv
  obtain ⟨rs, r1, r2⟩ := sr_rs sr
  obtain ⟨ρ2, S2, F2, v2, h2, u2, l2, hv2, sr2, st2, w2⟩ := arg_structs h1 u1 w1 (by decide) hv'
  obtain ⟨ts, t1, t2⟩ := sr_rs sr2
  obtain ⟨R, h⟩ := s13 900000 (by omega) w2 (r1.sg st2.sg (fun _ _ _ _ _ _ q => q)) t1 r2 t2 p.toNat q.toNat hp2.2 hq2.2
  refine mainU_ok dsk_mixed dsk_is dsk_X dskD_ok (f := 13) (xf := f13) (args := [v1, v2, .b p.toNat, .b q.toNat]) rfl u2 h2 ⟨rfl, fun i h => ?_⟩ (by rw [h]; rfl)
  simp only [toVs, List.size_toArray, List.length_cons, List.length_nil] at h
  have hi : i = 0 ∨ i = 1 ∨ i = 2 ∨ i = 3 := by omega
  rcases hi with rfl | rfl | rfl | rfl
  · exact fun _ => hv1.mono l2
  · exact fun _ => hv2
  · intro _
    show VRel _ (toV (.b p.toNat)) _
    rw [← hp2.1, numV_to]; exact .int _ _
  · intro _
    show VRel _ (toV (.b q.toNat)) _
    rw [← hq2.1, numV_to]; exact .int _ _
end Go.Proofs.Ythclmjelknibhaa.Ev
