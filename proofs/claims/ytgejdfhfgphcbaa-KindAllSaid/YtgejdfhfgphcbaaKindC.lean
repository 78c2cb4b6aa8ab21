/- Functions that have no text. -/
import Derived.Test.YtgejdfhfgphcbaaKindX
import Derived.KernelRfl
import Derived.Lib.Bytealg
namespace Go.Proofs.Ytgejdfhfgphcbaa.Ev
open Go Go.RowKit
set_option linter.unusedVariables false
set_option linter.constructorNameAsVariable false
theorem kind_mixed : Try.prog.follows .mixedOrders = true := by kernel_rfl
theorem ixL_eq (s : ByteArray) (c : UInt8) : (match (List.range s.size).find? fun i => s[i]! == c with
      | some i => (i : Int)
      | none => -1) = ixL s.data.toList c.toNat 0 := by
  have key : ∀ (n k : Nat), k + n = s.size → (match (List.range' k n).find? fun i => s[i]! == c with
      | some i => (i : Int)
      | none => -1) = ixL (s.data.toList.drop k) c.toNat k := by
    intro n
    induction n with
    | zero =>
      intro k hk
      have : s.data.toList.drop k = [] := List.drop_eq_nil_of_le (by have := ba_len s; omega)
      rw [this]; rfl
    | succ n ih =>
      intro k hk
      have hlt : k < s.data.toList.length := by have := ba_len s; omega
      rw [List.drop_eq_getElem_cons hlt]
      simp only [List.range'_succ, List.find?_cons, ixL, beqU]
      have hg : s[k]! = s.data.toList[k] := by
        have hk2 : k < s.size := by omega
        rw [getElem!_pos s k hk2]
        rfl
      rw [hg]
      by_cases e : s.data.toList[k] = c
      · rw [e]; simp
      · have e2 : ¬ s.data.toList[k].toNat = c.toNat := fun h => e (UInt8.toNat_inj.mp h)
        have e3 : (s.data.toList[k] == c) = false := by simpa using e
        rw [e3]
        simp only [e2, decide_false, cond_false]
        exact ih (k + 1) (by omega)
  have := key s.size 0 (by omega)
  rw [List.range_eq_range']
  simpa using this
theorem ext108 (s : ByteArray) (c : Int) (w : World) : (callFunc 108 #[.string s, .int .u8 c]).run Try.prog w = .ok (.value (.int .i64 (ixByte s c))) w := by
  obtain ⟨fn, hf, hb, hname, hn, he⟩ : ∃ fn, Try.prog.funcs[108]? = some fn ∧ fn.body.isNone = true ∧ (fn.name == "runtime.NumGoroutine") = false ∧ Extern.findNext fn = none ∧ Extern.find fn = some Extern.BytealgIndexByte.indexByte :=
    ⟨Try.f108, Try.func108, by kernel_rfl, by kernel_rfl, by kernel_rfl, by kernel_rfl⟩
  refine ext_ok hf hb hname hn he ?_
  have e1 : Extern.BytealgIndexByte.indexByte #[.string s, .int .u8 c] = (match (List.range s.size).find? fun i => s[i]! == c.toNat.toUInt8 with
      | some i => pure (goInt i)
      | none => pure (goInt (-1)) : Sem Value) := rfl
  rw [e1, ixByte, ← ixL_eq]
  generalize (List.range s.size).find? (fun i => s[i]! == c.toNat.toUInt8) = o
  cases o <;> rfl
theorem kind_X : COk Try.prog kindX := by
  intro W0 ρ S w f args args' v S' hw ha h
  have two : ∀ (s : ByteArray) (c : Int), args = [.string s, .int .u8 c] → args' = #[.string s, .int .u8 c] := by
    rintro s c rfl
    have h1 := ha.1
    have h2 := ha.2
    simp only [List.size_toArray, List.length_cons, List.length_nil] at h1
    have e0 := (h2 0 (by simp) (by omega)).string_inv
    have e1 := (h2 1 (by simp) (by omega)).int_inv
    apply Array.ext (by simp; omega)
    intro i p1 p2
    have p2 : i < 2 := by simpa using p2
    match i, p2 with
    | 0, _ => exact e0
    | 1, _ => exact e1
  unfold kindX at h
  split at h
  · rename_i hf
    subst hf
    unfold xStr at h
    split at h
    · rename_i s c
      simp only [Option.some.injEq, Prod.mk.injEq] at h
      obtain ⟨rfl, rfl⟩ := h
      have := two s c rfl
      subst this
      exact .inr ⟨ρ, _, w, Grow.refl _ ρ, ext108 s c w, .int _ _, hw⟩
    · cases h
  · cases h
end Go.Proofs.Ytgejdfhfgphcbaa.Ev
