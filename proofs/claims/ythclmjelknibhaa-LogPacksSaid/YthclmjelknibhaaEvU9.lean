/- A function's tree, told by its program; a text is that tree's. -/
import Derived.Test.YthclmjelknibhaaEvU8
namespace Go.Proofs.Ythclmjelknibhaa.Ev
open Go Go.RowKit
set_option linter.unusedVariables false
set_option linter.constructorNameAsVariable false
set_option linter.unusedSimpArgs false
set_option linter.unusedSectionVars false

def getX (o : Option XFunc) : XFunc :=
  match o with
  | some x => x
  | none => ⟨0, [], 0, .skip, []⟩
theorem normF_K {K : List Nat} {nx : Nat} {ef : EFunc} {xf : XFunc} (h : normF K nx ef = some xf) : xf.K = K ∧ xf.nx = nx ∧ (xf.results.all fun r => xf.K.contains r.1) = true := by
  unfold normF at h
  split at h
  · rename_i hk
    simp only [Bool.and_eq_true] at hk
    split at h
    · simp only [Option.some.injEq] at h
      subst h
      exact ⟨rfl, rfl, hk.2⟩
    · cases h
  · cases h
theorem toX_K {P : Program} {f : FuncId} {K : List Nat} {nx : Nat} {xf : XFunc} (h : toX P f K nx = some xf) : xf.K = K ∧ xf.nx = nx ∧ (xf.results.all fun r => xf.K.contains r.1) = true := by
  unfold toX at h
  split at h
  · exact normF_K h
  · cases h
theorem okU_prog {V : Type} {P : Program} {E : FuncId → Option XFunc} {X : Callee} {f : FuncId} {K : List Nat} {nx : Nat} {g : Fu} {T : FU V} (hE : E f = some (getX (toX P f K nx))) (hT : T.K = K)
    (h : (toX P f K nx).isSome = true ∧ g = fun U n args F => evUG U T n (getX (toX P f K nx)) args F) : OkU E X f g ∧ IsX P f (getX (toX P f K nx)) := by
  obtain ⟨h1, h2⟩ := h
  obtain ⟨xf, hx⟩ := Option.isSome_iff_exists.mp h1
  obtain ⟨k1, k2, k3⟩ := toX_K hx
  have e : getX (toX P f K nx) = xf := by rw [hx]; rfl
  rw [e] at h2 hE ⊢
  exact ⟨okU_of hE (hT.trans k1.symm) k3 h2, by unfold IsX; rw [k1, k2]; exact hx⟩
end Go.Proofs.Ythclmjelknibhaa.Ev
