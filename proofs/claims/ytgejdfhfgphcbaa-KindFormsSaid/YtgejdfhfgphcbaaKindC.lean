/- The trees are the program's functions. -/
import Derived.Test.YtgejdfhfgphcbaaKindX
import Derived.Test.YtgejdfhfgphcbaaProg
import Derived.KernelRfl
namespace Go.Proofs.Ytgejdfhfgphcbaa.Ev
open Go Go.RowKit
set_option linter.unusedVariables false
theorem x6 : IsX Try.prog 6 f6 := by unfold IsX; kernel_rfl
theorem x7 : IsX Try.prog 7 f7 := by unfold IsX; kernel_rfl
theorem x8 : IsX Try.prog 8 f8 := by unfold IsX; kernel_rfl
theorem x9 : IsX Try.prog 9 f9 := by unfold IsX; kernel_rfl
theorem x10 : IsX Try.prog 10 f10 := by unfold IsX; kernel_rfl
theorem x20 : IsX Try.prog 20 f20 := by unfold IsX; kernel_rfl
theorem x21 : IsX Try.prog 21 f21 := by unfold IsX; kernel_rfl
theorem x22 : IsX Try.prog 22 f22 := by unfold IsX; kernel_rfl
theorem x23 : IsX Try.prog 23 f23 := by unfold IsX; kernel_rfl
theorem x24 : IsX Try.prog 24 f24 := by unfold IsX; kernel_rfl
theorem x25 : IsX Try.prog 25 f25 := by unfold IsX; kernel_rfl
theorem x26 : IsX Try.prog 26 f26 := by unfold IsX; kernel_rfl
theorem x27 : IsX Try.prog 27 f27 := by unfold IsX; kernel_rfl
theorem x28 : IsX Try.prog 28 f28 := by unfold IsX; kernel_rfl
theorem x29 : IsX Try.prog 29 f29 := by unfold IsX; kernel_rfl
theorem x30 : IsX Try.prog 30 f30 := by unfold IsX; kernel_rfl
theorem x67 : IsX Try.prog 67 f67 := by unfold IsX; kernel_rfl
theorem x68 : IsX Try.prog 68 f68 := by unfold IsX; kernel_rfl
theorem x69 : IsX Try.prog 69 f69 := by unfold IsX; kernel_rfl
theorem x70 : IsX Try.prog 70 f70 := by unfold IsX; kernel_rfl
theorem x71 : IsX Try.prog 71 f71 := by unfold IsX; kernel_rfl
theorem x72 : IsX Try.prog 72 f72 := by unfold IsX; kernel_rfl
theorem x91 : IsX Try.prog 91 f91 := by unfold IsX; kernel_rfl
theorem x92 : IsX Try.prog 92 f92 := by unfold IsX; kernel_rfl
theorem x93 : IsX Try.prog 93 f93 := by unfold IsX; kernel_rfl
theorem x94 : IsX Try.prog 94 f94 := by unfold IsX; kernel_rfl
theorem x95 : IsX Try.prog 95 f95 := by unfold IsX; kernel_rfl
theorem x96 : IsX Try.prog 96 f96 := by unfold IsX; kernel_rfl
theorem x97 : IsX Try.prog 97 f97 := by unfold IsX; kernel_rfl
theorem x98 : IsX Try.prog 98 f98 := by unfold IsX; kernel_rfl
theorem x99 : IsX Try.prog 99 f99 := by unfold IsX; kernel_rfl
theorem x104 : IsX Try.prog 104 f104 := by unfold IsX; kernel_rfl
theorem x105 : IsX Try.prog 105 f105 := by unfold IsX; kernel_rfl
theorem x106 : IsX Try.prog 106 f106 := by unfold IsX; kernel_rfl
theorem x107 : IsX Try.prog 107 f107 := by unfold IsX; kernel_rfl
theorem x109 : IsX Try.prog 109 f109 := by unfold IsX; kernel_rfl
theorem kind_all : ∀ p ∈ kindL, IsX Try.prog p.1 p.2 :=
  isx_cons x6 ( isx_cons x7 ( isx_cons x8 ( isx_cons x9 ( isx_cons x10 ( isx_cons x20 ( isx_cons x21 ( isx_cons x22 ( isx_cons x23 ( isx_cons x24 ( isx_cons x25 ( isx_cons x26 ( isx_cons x27 ( isx_cons x28 ( isx_cons x29 ( isx_cons x30 ( isx_cons x67 ( isx_cons x68 ( isx_cons x69 ( isx_cons x70 ( isx_cons x71 ( isx_cons x72 ( isx_cons x91 ( isx_cons x92 ( isx_cons x93 ( isx_cons x94 ( isx_cons x95 ( isx_cons x96 ( isx_cons x97 ( isx_cons x98 ( isx_cons x99 ( isx_cons x104 ( isx_cons x105 ( isx_cons x106 ( isx_cons x107 ( isx_cons x109 (fun _ h => nomatch h))))))))))))))))))))))))))))))))))))
theorem kind_is (f : FuncId) (xf : XFunc) (h : kindE f = some xf) : IsX Try.prog f xf := by
  unfold kindE at h
  exact kind_all (f, xf) (look_mem (l := kindL) h)
theorem kind_mixed : Try.prog.follows .mixedOrders = true := by kernel_rfl
theorem ext108 (s : ByteArray) (c : Int) (w : World) : (callFunc 108 #[.string s, .int .u8 c]).run Try.prog w = .ok (.value (.int .i64 (ixByte s c))) w := by
  obtain ⟨fn, hf, hb, hname, hn, he⟩ : ∃ fn, Try.prog.funcs[108]? = some fn ∧ fn.body.isNone = true ∧ (fn.name == "runtime.NumGoroutine") = false ∧ Extern.findNext fn = none ∧ Extern.find fn = some Extern.BytealgIndexByte.indexByte :=
    ⟨Try.f108, Try.func108, by kernel_rfl, by kernel_rfl, by kernel_rfl, by kernel_rfl⟩
  refine ext_ok hf hb hname hn he ?_
  have e1 : Extern.BytealgIndexByte.indexByte #[.string s, .int .u8 c] = (match (List.range s.size).find? fun i => s[i]! == c.toNat.toUInt8 with
      | some i => pure (goInt i)
      | none => pure (goInt (-1)) : Sem Value) := rfl
  rw [e1, ixByte]
  generalize (List.range s.size).find? (fun i => s[i]! == c.toNat.toUInt8) = o
  cases o <;> rfl
theorem kind_X : COk Try.prog kindX := by
  intro W0 ρ S w f args args' v S' hw ha h
  unfold kindX at h
  split at h
  · rename_i hf
    subst hf
    split at h
    · rename_i s c
      simp only [Option.some.injEq, Prod.mk.injEq] at h
      obtain ⟨rfl, rfl⟩ := h
      have : args' = #[.string s, .int .u8 c] := by
        have h1 := ha.1
        have h2 := ha.2
        simp only [List.size_toArray, List.length_cons, List.length_nil] at h1
        have e0 := (h2 0 (by simp) (by omega)).string_inv
        have e1 := (h2 1 (by simp) (by omega)).int_inv
        apply Array.ext (by simp; omega)
        intro i p1 p2
        have p2 : i < 2 := by simpa using p2
        match i, p2 with
        | 0, _ => exact e0
        | 1, _ => exact e1
      subst this
      exact .inr ⟨ρ, _, w, Grow.refl _ ρ, ext108 s c w, .int _ _, hw⟩
    · cases h
  · cases h
end Go.Proofs.Ytgejdfhfgphcbaa.Ev
