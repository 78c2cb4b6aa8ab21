/- The trees are the program's functions. -/
import Derived.Test.YtfjoifncipjjcaaPairX
import Derived.Test.YtfjoifncipjjcaaProg
import Derived.KernelRfl
namespace Go.Proofs.Ytfjoifncipjjcaa.Ev
open Go Go.RowKit
set_option linter.unusedVariables false
theorem x3 : IsX Try.prog 3 f3 := by unfold IsX; kernel_rfl
theorem x10 : IsX Try.prog 10 f10 := by unfold IsX; kernel_rfl
theorem x11 : IsX Try.prog 11 f11 := by unfold IsX; kernel_rfl
theorem x12 : IsX Try.prog 12 f12 := by unfold IsX; kernel_rfl
theorem x13 : IsX Try.prog 13 f13 := by unfold IsX; kernel_rfl
theorem x32 : IsX Try.prog 32 f32 := by unfold IsX; kernel_rfl
theorem x33 : IsX Try.prog 33 f33 := by unfold IsX; kernel_rfl
theorem x34 : IsX Try.prog 34 f34 := by unfold IsX; kernel_rfl
theorem x35 : IsX Try.prog 35 f35 := by unfold IsX; kernel_rfl
theorem x36 : IsX Try.prog 36 f36 := by unfold IsX; kernel_rfl
theorem x37 : IsX Try.prog 37 f37 := by unfold IsX; kernel_rfl
theorem x64 : IsX Try.prog 64 f64 := by unfold IsX; kernel_rfl
theorem x65 : IsX Try.prog 65 f65 := by unfold IsX; kernel_rfl
theorem x66 : IsX Try.prog 66 f66 := by unfold IsX; kernel_rfl
theorem x67 : IsX Try.prog 67 f67 := by unfold IsX; kernel_rfl
theorem x68 : IsX Try.prog 68 f68 := by unfold IsX; kernel_rfl
theorem x69 : IsX Try.prog 69 f69 := by unfold IsX; kernel_rfl
theorem x70 : IsX Try.prog 70 f70 := by unfold IsX; kernel_rfl
theorem x71 : IsX Try.prog 71 f71 := by unfold IsX; kernel_rfl
theorem x72 : IsX Try.prog 72 f72 := by unfold IsX; kernel_rfl
theorem x73 : IsX Try.prog 73 f73 := by unfold IsX; kernel_rfl
theorem x74 : IsX Try.prog 74 f74 := by unfold IsX; kernel_rfl
theorem x75 : IsX Try.prog 75 f75 := by unfold IsX; kernel_rfl
theorem x76 : IsX Try.prog 76 f76 := by unfold IsX; kernel_rfl
theorem x77 : IsX Try.prog 77 f77 := by unfold IsX; kernel_rfl
theorem x86 : IsX Try.prog 86 f86 := by unfold IsX; kernel_rfl
theorem x87 : IsX Try.prog 87 f87 := by unfold IsX; kernel_rfl
theorem x88 : IsX Try.prog 88 f88 := by unfold IsX; kernel_rfl
theorem x89 : IsX Try.prog 89 f89 := by unfold IsX; kernel_rfl
theorem x90 : IsX Try.prog 90 f90 := by unfold IsX; kernel_rfl
theorem x91 : IsX Try.prog 91 f91 := by unfold IsX; kernel_rfl
theorem x92 : IsX Try.prog 92 f92 := by unfold IsX; kernel_rfl
theorem x93 : IsX Try.prog 93 f93 := by unfold IsX; kernel_rfl
theorem x94 : IsX Try.prog 94 f94 := by unfold IsX; kernel_rfl
theorem x95 : IsX Try.prog 95 f95 := by unfold IsX; kernel_rfl
theorem x96 : IsX Try.prog 96 f96 := by unfold IsX; kernel_rfl
theorem x97 : IsX Try.prog 97 f97 := by unfold IsX; kernel_rfl
theorem x98 : IsX Try.prog 98 f98 := by unfold IsX; kernel_rfl
theorem x102 : IsX Try.prog 102 f102 := by unfold IsX; kernel_rfl
theorem x103 : IsX Try.prog 103 f103 := by unfold IsX; kernel_rfl
theorem x104 : IsX Try.prog 104 f104 := by unfold IsX; kernel_rfl
theorem x105 : IsX Try.prog 105 f105 := by unfold IsX; kernel_rfl
theorem x106 : IsX Try.prog 106 f106 := by unfold IsX; kernel_rfl
theorem x107 : IsX Try.prog 107 f107 := by unfold IsX; kernel_rfl
theorem x108 : IsX Try.prog 108 f108 := by unfold IsX; kernel_rfl
theorem x109 : IsX Try.prog 109 f109 := by unfold IsX; kernel_rfl
theorem x110 : IsX Try.prog 110 f110 := by unfold IsX; kernel_rfl
theorem x122 : IsX Try.prog 122 f122 := by unfold IsX; kernel_rfl
theorem x123 : IsX Try.prog 123 f123 := by unfold IsX; kernel_rfl
theorem x124 : IsX Try.prog 124 f124 := by unfold IsX; kernel_rfl
theorem x125 : IsX Try.prog 125 f125 := by unfold IsX; kernel_rfl
theorem x126 : IsX Try.prog 126 f126 := by unfold IsX; kernel_rfl
theorem x134 : IsX Try.prog 134 f134 := by unfold IsX; kernel_rfl
theorem pair_all : ∀ p ∈ pairL, IsX Try.prog p.1 p.2 :=
  isx_cons x3 ( isx_cons x10 ( isx_cons x11 ( isx_cons x12 ( isx_cons x13 ( isx_cons x32 ( isx_cons x33 ( isx_cons x34 ( isx_cons x35 ( isx_cons x36 ( isx_cons x37 ( isx_cons x64 ( isx_cons x65 ( isx_cons x66 ( isx_cons x67 ( isx_cons x68 ( isx_cons x69 ( isx_cons x70 ( isx_cons x71 ( isx_cons x72 ( isx_cons x73 ( isx_cons x74 ( isx_cons x75 ( isx_cons x76 ( isx_cons x77 ( isx_cons x86 ( isx_cons x87 ( isx_cons x88 ( isx_cons x89 ( isx_cons x90 ( isx_cons x91 ( isx_cons x92 ( isx_cons x93 ( isx_cons x94 ( isx_cons x95 ( isx_cons x96 ( isx_cons x97 ( isx_cons x98 ( isx_cons x102 ( isx_cons x103 ( isx_cons x104 ( isx_cons x105 ( isx_cons x106 ( isx_cons x107 ( isx_cons x108 ( isx_cons x109 ( isx_cons x110 ( isx_cons x122 ( isx_cons x123 ( isx_cons x124 ( isx_cons x125 ( isx_cons x126 ( isx_cons x134 (fun _ h => nomatch h)))))))))))))))))))))))))))))))))))))))))))))))))))))
theorem pair_is (f : FuncId) (xf : XFunc) (h : pairE f = some xf) : IsX Try.prog f xf := by
  unfold pairE at h
  exact pair_all (f, xf) (look_mem (l := pairL) h)
theorem pair_mixed : Try.prog.follows .mixedOrders = true := by kernel_rfl
theorem ixL_eq (s : ByteArray) (c : UInt8) : (match (List.range s.size).find? fun i => s[i]! == c with
      | some i => (i : Int)
      | none => -1) = ixL s.data.toList c.toNat 0 := by
  have key : ∀ (n k : Nat), k + n = s.size → (match (List.range' k n).find? fun i => s[i]! == c with
      | some i => (i : Int)
      | none => -1) = ixL (s.data.toList.drop k) c.toNat k := by
    intro n
    induction n with
    | zero =>
      intro k hk
      have : s.data.toList.drop k = [] := List.drop_eq_nil_of_le (by have := ba_len s; omega)
      rw [this]; rfl
    | succ n ih =>
      intro k hk
      have hlt : k < s.data.toList.length := by have := ba_len s; omega
      rw [List.drop_eq_getElem_cons hlt]
      simp only [List.range'_succ, List.find?_cons, ixL, beqN_eq]
      have hg : s[k]! = s.data.toList[k] := by
        have hk2 : k < s.size := by omega
        rw [getElem!_pos s k hk2]
        rfl
      rw [hg]
      by_cases e : s.data.toList[k] = c
      · rw [e]; simp
      · have e2 : ¬ s.data.toList[k].toNat = c.toNat := fun h => e (UInt8.toNat_inj.mp h)
        have e3 : (s.data.toList[k] == c) = false := by simpa using e
        rw [e3]
        simp only [e2, decide_false, cond_false]
        exact ih (k + 1) (by omega)
  have := key s.size 0 (by omega)
  rw [List.range_eq_range']
  simpa using this
theorem ext127 (s : ByteArray) (c : Int) (w : World) : (callFunc 127 #[.string s, .int .u8 c]).run Try.prog w = .ok (.value (.int .i64 (ixByte s c))) w := by
  obtain ⟨fn, hf, hb, hname, hn, he⟩ : ∃ fn, Try.prog.funcs[127]? = some fn ∧ fn.body.isNone = true ∧ (fn.name == "runtime.NumGoroutine") = false ∧ Extern.findNext fn = none ∧ Extern.find fn = some Extern.BytealgIndexByte.indexByte :=
    ⟨Try.f127, Try.func127, by kernel_rfl, by kernel_rfl, by kernel_rfl, by kernel_rfl⟩
  refine ext_ok hf hb hname hn he ?_
  have e1 : Extern.BytealgIndexByte.indexByte #[.string s, .int .u8 c] = (match (List.range s.size).find? fun i => s[i]! == c.toNat.toUInt8 with
      | some i => pure (goInt i)
      | none => pure (goInt (-1)) : Sem Value) := rfl
  rw [e1, ixByte, ← ixL_eq]
  generalize (List.range s.size).find? (fun i => s[i]! == c.toNat.toUInt8) = o
  cases o <;> rfl
theorem pair_X : COk Try.prog pairX := by
  intro W0 ρ S w f args args' v S' hw ha h
  have two : ∀ (s : ByteArray) (c : Int), args = [.string s, .int .u8 c] → args' = #[.string s, .int .u8 c] := by
    rintro s c rfl
    have h1 := ha.1
    have h2 := ha.2
    simp only [List.size_toArray, List.length_cons, List.length_nil] at h1
    have e0 := (h2 0 (by simp) (by omega)).string_inv
    have e1 := (h2 1 (by simp) (by omega)).int_inv
    apply Array.ext (by simp; omega)
    intro i p1 p2
    have p2 : i < 2 := by simpa using p2
    match i, p2 with
    | 0, _ => exact e0
    | 1, _ => exact e1
  unfold pairX at h
  split at h
  · rename_i hf
    subst hf
    unfold xStr at h
    split at h
    · rename_i s c
      simp only [Option.some.injEq, Prod.mk.injEq] at h
      obtain ⟨rfl, rfl⟩ := h
      have := two s c rfl
      subst this
      exact .inr ⟨ρ, _, w, Grow.refl _ ρ, ext127 s c w, .int _ _, hw⟩
    · cases h
  · cases h
end Go.Proofs.Ytfjoifncipjjcaa.Ev
