/- Rows may be forgotten: what is known of the others stands. -/
import Derived.Test.YtbngpadibllogaaGreatDoorEv28
namespace Go.Proofs.YtbngpadibllogaaGreatDoor.Ev
open Go Go.RowKit
set_option linter.unusedVariables false
set_option linter.unusedSimpArgs false
set_option linter.unusedSectionVars false

def famOf : AObj → List Nat
  | .cells r => [r.fam]
  | .map _ => []
/-- The rows that p names are kept. -/
def AW.keep (S : AW) (p : Nat → Bool) : AW :=
  let h := S.heap.filter fun e => p e.1
  let ff := h.flatMap fun e => famOf e.2
  { heap := h, fams := S.fams.filter fun e => ff.contains e.1, next := S.next }
theorem look_keep {α : Type} (p : Nat → Bool) (i : Nat) : ∀ l : List (Nat × α), look (l.filter fun e => p e.1) i = if p i then look l i else none
  | [] => by simp [look]
  | (t, v) :: r => by
    rw [List.filter_cons]
    have ih := look_keep p i r
    by_cases ht : p t = true
    · rw [if_pos ht]
      simp only [look, ih]
      by_cases hi : i = t
      · subst hi; simp [ht]
      · simp [hi]
    · rw [if_neg ht]
      rw [ih]
      by_cases hi : i = t
      · subst hi; simp [ht]
      · simp [look, hi]
theorem look_in {α : Type} : ∀ {l : List (Nat × α)} {x : Nat} {v : α}, look l x = some v → (x, v) ∈ l
  | (t, w) :: r, x, v, h => by
    simp only [look] at h
    split at h
    · rename_i hx
      simp only [Option.some.injEq] at h
      subst h; subst hx
      exact List.mem_cons_self
    · exact List.mem_cons_of_mem _ (look_in h)
theorem keep_obj {S : AW} {p : Nat → Bool} {i : Nat} {o : AObj} (h : (S.keep p).obj i = some o) : S.obj i = some o ∧ ∀ r, o = .cells r → (S.keep p).fam r.fam = S.fam r.fam := by
  have h0 := look_in h
  have h1 := h
  unfold AW.obj AW.keep at h1
  simp only [look_keep] at h1
  split at h1
  · refine ⟨h1, ?_⟩
    rintro r rfl
    unfold AW.fam AW.keep
    simp only
    rw [look_keep (fun j => ((S.heap.filter fun e => p e.1).flatMap fun e => famOf e.2).contains j) r.fam S.fams]
    rw [if_pos]
    simp only [List.contains_iff_mem, List.mem_flatMap]
    exact ⟨_, h0, List.mem_singleton.mpr rfl⟩
  · cases h1
theorem keep_raw {S : AW} {p : Nat → Bool} {i : Nat} {r : Raw} (h : (S.keep p).raw i = some r) : S.raw i = some r ∧ (S.keep p).fam r.fam = S.fam r.fam := by
  obtain ⟨h1, h2⟩ := AW.raw_some h
  obtain ⟨k1, k2⟩ := keep_obj h1
  have k3 := k2 r rfl
  rw [k3] at h2
  exact ⟨AW.raw_of k1 h2, k3⟩
theorem keep_mapv {S : AW} {p : Nat → Bool} {i : Nat} {es : List (Value × Value)} (h : (S.keep p).mapv i = some es) : S.mapv i = some es := AW.mapv_of (keep_obj (AW.mapv_some h)).1

theorem RelW.keep {W0 : World} {ρ : Ren} {S : AW} {w : World} (h : RelW W0 ρ S w) (p : Nat → Bool) : RelW W0 ρ (S.keep p) w := by
  refine ⟨h.below, h.fresh, fun i o ho => h.objLt i o (keep_obj ho).1, fun i r ho => h.famLt i r (keep_obj ho).1, fun i r ho => ?_, h.blk, fun i q r hq hr => h.cells i q r hq (keep_raw hr).1, ?_, fun i r hr hro => ?_, fun i q es hq hm => h.maps i q es hq (keep_mapv hm), fun i j q q' es fs hij hq hq' hm hm' => h.mapsApart i j q q' es fs hij hq hq' (keep_mapv hm) (keep_mapv hm')⟩
  · rw [(keep_obj ho).2 r rfl]; exact h.genLe i r (keep_obj ho).1
  · intro i j q q' r s hij hq hq' hr hs hro hso hb
    obtain ⟨a1, a2, a3⟩ := h.apart i j q q' r s hij hq hq' (keep_raw hr).1 (keep_raw hs).1 hro hso hb
    exact ⟨a1, by rw [(keep_raw hr).2]; exact a2, a3⟩
  · rw [(keep_raw hr).2]; exact h.ext i r (keep_raw hr).1 hro

/-- The objects that a value names (it may miss some: what is missed is forgotten). -/
def ids0 : Value → List Nat
  | .pointer (some a) => [a.block]
  | .slice (some a) _ _ => [a.block]
  | .map (some i) => [i]
  | _ => []
def ids1 : Value → List Nat
  | .agg cs => cs.toList.flatMap ids0
  | .func _ a b => a.toList.flatMap ids0 ++ b.toList.flatMap ids0
  | v => ids0 v
def ids2 : Value → List Nat
  | .tuple cs => cs.toList.flatMap ids1
  | .agg cs => cs.toList.flatMap ids1
  | .func _ a b => a.toList.flatMap ids1 ++ b.toList.flatMap ids1
  | v => ids0 v
def idsO : AObj → List Nat
  | .cells r => r.c.flatMap ids1
  | .map es => es.flatMap fun e => ids2 e.2
def reach (S : AW) (n0 : Nat) : Nat → List Nat → List Nat → List Nat
  | 0, _, seen => seen
  | _ + 1, [], seen => seen
  | n + 1, i :: l, seen => if i < n0 || seen.contains i then reach S n0 n l seen else match S.obj i with
    | some o => reach S n0 n (idsO o ++ l) (i :: seen)
    | none => reach S n0 n l seen
/-- What was made in a call and is not reached from its result or from what was there before is forgotten. -/
def AW.gc (S : AW) (n0 : Nat) (v : Value) : AW :=
  if S.next < n0 + 24 then S else
    let seen := reach S n0 100000 (ids2 v ++ (S.heap.filter fun e => decide (e.1 < n0)).flatMap fun e => idsO e.2) []
    S.keep fun i => decide (i < n0) || seen.contains i
theorem RelW.gc {W0 : World} {ρ : Ren} {S : AW} {w : World} (h : RelW W0 ρ S w) (n0 : Nat) (v : Value) : RelW W0 ρ (S.gc n0 v) w := by
  unfold AW.gc
  split
  · exact h
  · exact h.keep _
theorem gc_next (S : AW) (n0 : Nat) (v : Value) : (S.gc n0 v).next = S.next := by
  unfold AW.gc
  split <;> rfl
end Go.Proofs.YtbngpadibllogaaGreatDoor.Ev
