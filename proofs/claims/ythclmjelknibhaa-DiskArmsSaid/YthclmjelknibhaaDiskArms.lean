/- What the law DiskArms comes to, however it is run. -/
import Derived.Test.YthclmjelknibhaaDiskA1
import Derived.Test.YthclmjelknibhaaDiskC
import Derived.Test.YthclmjelknibhaaEvA
namespace Go.Proofs.Ythclmjelknibhaa.Ev
open Go Go.RowKit
set_option linter.unusedVariables false
theorem walkDiskArms (W : World) (p : Int) (hp : (Lit.int .u8 p).wf = true) (q : Int) (hq : (Lit.int .u8 q).wf = true) : Calls Try.prog 3 #[.int .u8 p, .int .u8 q] W fun e W' => e = .returned (.bool true) ∧ Below W.heap.size W W' := by
  have key : ∀ z : Int, (Lit.int .u8 z).wf = true → (Int.ofNat z.toNat) = z := fun z hz => by
    simp [Lit.wf, IntKind.min, IntKind.max, IntKind.signed, IntKind.bits] at hz
    show ((z.toNat : Nat) : Int) = z
    omega
  refine mainU_ok disk_mixed disk_is disk_X diskD_ok (f := 3) (xf := f3) (args := [.b p.toNat, .b q.toNat]) rfl UR.empty (RelW.empty W) ⟨rfl, fun i h h' => ?_⟩ (arms p.toNat q.toNat)
  simp only [toVs, List.size_toArray, List.length_cons, List.length_nil] at h
  simp only [toVs, toV, key p hp, key q hq]
  match i, h with
  | 0, _ => exact .int _ _
  | 1, _ => exact .int _ _
end Go.Proofs.Ythclmjelknibhaa.Ev
