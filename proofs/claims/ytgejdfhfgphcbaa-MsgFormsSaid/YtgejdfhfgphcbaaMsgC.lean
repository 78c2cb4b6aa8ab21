/- The trees are the program's functions. -/
import Derived.Test.YtgejdfhfgphcbaaMsgX
import Derived.Test.YtgejdfhfgphcbaaProg
import Derived.KernelRfl
namespace Go.Proofs.Ytgejdfhfgphcbaa.Ev
open Go Go.RowKit
set_option linter.unusedVariables false
theorem x5 : IsX Try.prog 5 f5 := by unfold IsX; kernel_rfl
theorem x14 : IsX Try.prog 14 f14 := by unfold IsX; kernel_rfl
theorem x16 : IsX Try.prog 16 f16 := by unfold IsX; kernel_rfl
theorem x18 : IsX Try.prog 18 f18 := by unfold IsX; kernel_rfl
theorem x55 : IsX Try.prog 55 f55 := by unfold IsX; kernel_rfl
theorem x56 : IsX Try.prog 56 f56 := by unfold IsX; kernel_rfl
theorem x57 : IsX Try.prog 57 f57 := by unfold IsX; kernel_rfl
theorem x63 : IsX Try.prog 63 f63 := by unfold IsX; kernel_rfl
theorem x64 : IsX Try.prog 64 f64 := by unfold IsX; kernel_rfl
theorem x65 : IsX Try.prog 65 f65 := by unfold IsX; kernel_rfl
theorem x66 : IsX Try.prog 66 f66 := by unfold IsX; kernel_rfl
theorem x80 : IsX Try.prog 80 f80 := by unfold IsX; kernel_rfl
theorem x81 : IsX Try.prog 81 f81 := by unfold IsX; kernel_rfl
theorem x82 : IsX Try.prog 82 f82 := by unfold IsX; kernel_rfl
theorem x83 : IsX Try.prog 83 f83 := by unfold IsX; kernel_rfl
theorem x84 : IsX Try.prog 84 f84 := by unfold IsX; kernel_rfl
theorem x85 : IsX Try.prog 85 f85 := by unfold IsX; kernel_rfl
theorem x90 : IsX Try.prog 90 f90 := by unfold IsX; kernel_rfl
theorem x101 : IsX Try.prog 101 f101 := by unfold IsX; kernel_rfl
theorem x102 : IsX Try.prog 102 f102 := by unfold IsX; kernel_rfl
theorem x103 : IsX Try.prog 103 f103 := by unfold IsX; kernel_rfl
theorem msg_all : ∀ p ∈ msgL, IsX Try.prog p.1 p.2 :=
  isx_cons x5 ( isx_cons x14 ( isx_cons x16 ( isx_cons x18 ( isx_cons x55 ( isx_cons x56 ( isx_cons x57 ( isx_cons x63 ( isx_cons x64 ( isx_cons x65 ( isx_cons x66 ( isx_cons x80 ( isx_cons x81 ( isx_cons x82 ( isx_cons x83 ( isx_cons x84 ( isx_cons x85 ( isx_cons x90 ( isx_cons x101 ( isx_cons x102 ( isx_cons x103 (fun _ h => nomatch h)))))))))))))))))))))
theorem msg_is (f : FuncId) (xf : XFunc) (h : msgE f = some xf) : IsX Try.prog f xf := by
  unfold msgE at h
  exact msg_all (f, xf) (look_mem (l := msgL) h)
theorem msg_mixed : Try.prog.follows .mixedOrders = true := by kernel_rfl
theorem msg_X : COk Try.prog msgX := fun W0 ρ S w f args args' v S' _ _ h => by simp [msgX] at h
end Go.Proofs.Ytgejdfhfgphcbaa.Ev
