/- What the law KindAll comes to, however it is run. -/
import Derived.Test.YtgejdfhfgphcbaaKindR
import Derived.Test.YtgejdfhfgphcbaaKindC
namespace Go.Proofs.Ytgejdfhfgphcbaa.Ev
open Go Go.RowKit
set_option linter.unusedVariables false
/-- A text's bytes. -/
def bytesOf (a : ByteArray) : List Nat := a.data.toList.map UInt8.toNat
theorem bytesOf_bs (a : ByteArray) : Bs (bytesOf a) := by
  intro x hx
  obtain ⟨b, _, rfl⟩ := List.mem_map.mp hx
  exact b.toNat_lt
theorem toV_bytes (a : ByteArray) : toV (.s (bytesOf a)) = .string a := by
  simp only [toV, bytesOf, List.map_map]
  congr 1
  cases a with
  | mk d =>
    congr 1
    apply Array.ext'
    simp only [Function.comp_def, UInt8.ofNat_toNat, List.map_id']
theorem walkKindAll (W : World) (a : ByteArray) (ha : a.size ≤ 140737488351232) (k : Int) (hk : (Lit.int .i64 k).wf = true) : Calls Try.prog 6 #[.string a, .int .i64 k] W fun e W' => e = .returned (.bool true) ∧ Below W.heap.size W W' := by
  obtain ⟨F', h⟩ := s6 400 (by decide) (bytesOf_bs a) k Wf.empty
  refine mainU_ok kind_mixed kind_is kind_X kindD_ok (f := 6) (xf := f6) (args := [.s (bytesOf a), numV .i64 k]) rfl UR.empty (RelW.empty W) ⟨rfl, fun i h h' => ?_⟩ (by rw [h]; rfl)
  simp only [toVs, List.size_toArray, List.length_cons, List.length_nil] at h
  simp only [toVs, toV_bytes, numV_to]
  match i, h with
  | 0, _ => exact .string _
  | 1, _ => exact .int _ _
end Go.Proofs.Ytgejdfhfgphcbaa.Ev
