/- What the law KindBack comes to, however it is run. -/
import Derived.Test.YtgejdfhfgphcbaaKindK
import Derived.Test.YtgejdfhfgphcbaaKindC
namespace Go.Proofs.Ytgejdfhfgphcbaa.Ev
open Go Go.RowKit
set_option linter.unusedVariables false
/-- A text's bytes. -/
def bytesOf (a : ByteArray) : List Nat := a.data.toList.map UInt8.toNat
theorem bytesOf_bs (a : ByteArray) : Bs (bytesOf a) := by
  intro x hx
  obtain ⟨b, _, rfl⟩ := List.mem_map.mp hx
  exact b.toNat_lt
theorem toV_bytes (a : ByteArray) : toV (.s (bytesOf a)) = .string a := by
  simp only [toV, bytesOf, List.map_map]
  congr 1
  cases a with
  | mk d =>
    congr 1
    apply Array.ext'
    simp only [Function.comp_def, UInt8.ofNat_toNat, List.map_id']
theorem Wf.empty : Wf ⟨.nil, .nil, 0⟩ := ⟨fun j r h => by simp [FAW.row, getH] at h, fun j r h => by simp [FAW.fam, getFm] at h, fun j r h => by simp [FAW.mp, getMp] at h⟩
theorem walkKindBack (W : World) (a : ByteArray) (ha : a.size ≤ 140737488351232) : Calls Try.prog 7 #[.string a] W fun e W' => e = .returned (.bool true) ∧ Below W.heap.size W W' := by
  obtain ⟨F', h⟩ := s7 300 (by decide) (bytesOf_bs a) Wf.empty
  refine mainU_ok kind_mixed kind_is kind_X kindD_ok (f := 7) (xf := f7) (args := [.s (bytesOf a)]) rfl UR.empty (RelW.empty W) ⟨rfl, fun i h => ?_⟩ (by rw [h]; rfl)
  simp only [toVs, List.size_toArray, List.length_cons, List.length_nil] at h
  have hi : i = 0 := by omega
  subst hi
  simp only [toVs, toV_bytes]
  exact fun _ => .string _
end Go.Proofs.Ytgejdfhfgphcbaa.Ev
