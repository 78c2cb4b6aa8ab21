/- What the law LogScans comes to, however it is run. -/
import Derived.Test.YthclmjelknibhaaDOall
import Derived.Test.YthclmjelknibhaaDskC
namespace Go.Proofs.Ythclmjelknibhaa.Ev
open Go Go.RowKit
set_option linter.unusedVariables false
theorem u16_n {z : Int} (hz : (Lit.int .u16 z).wf = true) : z.toNat < 65536 ∧ ∀ (F : FAW) (f : KU), uCvI .i64 (numV .u16 z) F f = f (.n z.toNat) F := by
  have h : 0 ≤ z ∧ z ≤ 65535 := by
    simp [Lit.wf, IntKind.min, IntKind.max, IntKind.bits, IntKind.signed] at hz
    omega
  obtain ⟨m, rfl⟩ := Int.eq_ofNat_of_zero_le h.1
  refine ⟨by simp; omega, fun F f => ?_⟩
  have e : uCvI .i64 (numV .u16 (m : Int)) F f = uO (wCvI .i64 (toV (numV .u16 (m : Int)))) F f := rfl
  have h2 : wCvI .i64 (toV (numV .u16 (m : Int))) = some (.int .i64 (Int.ofNat m)) := by
    rw [numV_to]
    simp only [wCvI]
    rw [wrap_n (by omega)]; rfl
  rw [e, h2]; rfl
theorem walkLogScans (W : World) (v : Value) (ds : List (List Ld)) (hv : SA W [.by] v ds) (a : Option Addr) (len cap : Nat) (z : List Int) (hs : SliceArg W .u8 a len cap z) (t : Int) (ht : (Lit.int .u16 t).wf = true) (p : Int) (hp : (Lit.int .u8 p).wf = true) :
    Calls Try.prog 8 #[v, .slice a len cap, .int .u16 t, .int .u8 p] W fun e W' => e = .returned (.bool true) ∧ Below W.heap.size W W' := by
  have hp2 := numV_u8 hp
  have ht2 := u16_n ht
  obtain ⟨ρ1, S1, F1, v1, h1, u1, _, hv1, sr, _, w1⟩ := arg_structs (RelW.empty W) UR.empty Wf.empty (by decide) hv
  obtain ⟨rs, r1, r2⟩ := sr_rs sr
  obtain ⟨ρ, S, F, fv, ms, h2, h3, h4, h5, h6, h7, h8, h9⟩ := arg_by h1 u1 w1 hs
  obtain ⟨R, h⟩ := s8 900000 (by omega) h9 (r1.sg h8.sg (fun _ _ _ _ _ _ q => q)) r2 h6 h7 t.toNat ht2.1 ht2.2 p.toNat hp2.2
  refine mainU_ok dsk_mixed dsk_is dsk_X dskD_ok (f := 8) (xf := f8) (args := [v1, fv, numV .u16 t, .b p.toNat]) rfl h3 h2 ⟨rfl, fun i h => ?_⟩ (by rw [h]; rfl)
  simp only [toVs, List.size_toArray, List.length_cons, List.length_nil] at h
  have hi : i = 0 ∨ i = 1 ∨ i = 2 ∨ i = 3 := by omega
  rcases hi with rfl | rfl | rfl | rfl
  · exact fun _ => hv1.mono h4
  · exact fun _ => h5
  · intro _
    show VRel _ (toV (numV .u16 t)) _
    rw [numV_to]; exact .int _ _
  · intro _
    show VRel _ (toV (.b p.toNat)) _
    rw [← hp2.1, numV_to]; exact .int _ _
end Go.Proofs.Ythclmjelknibhaa.Ev
