/- Regions whose order is open: what an operation looks at; rows that are made before the model makes them. -/
import Derived.Test.YthclmjelknibhaaEv18
namespace Go.Proofs.Ythclmjelknibhaa.Ev
open Go Go.RowKit
set_option linter.unusedVariables false
set_option linter.unusedSimpArgs false
set_option linter.unusedSectionVars false

def EOp.operands : EOp → List Operand
  | .mov x | .un _ x | .cvI _ x | .cvS x | .fld _ _ x | .ext _ x | .fad _ x | .nilc x | .len _ x | .ld _ x | .cvBS x | .box _ _ x | .cvSB _ x | .lenM x | .capn x | .mark x => [x]
  | .pick c a b | .mup _ c a b => [c, a, b]
  | .mkm r => r.toList
  | .bin _ x y | .eqB _ x y | .eqN _ _ x y | .eqA _ _ x y | .iad _ x y | .iadA _ _ x y | .idxS x y | .idxA _ _ _ x y | .st _ x y | .cpy _ x y | .mlk _ _ _ x y | .mdel _ x y | .mks _ _ _ _ x y | .app _ _ _ x y | .appz _ _ _ _ x y => [x, y]
  | .build _ ps | .lit _ _ _ _ ps => ps.map fun p => p.2.2
  | .slS x lo hi => [x] ++ lo.toList ++ hi.toList
  | .slV _ x lo hi m4 => [x] ++ lo.toList ++ hi.toList ++ m4.toList
  | .mkf _ fs cs => fs ++ cs
  | .con _ | .new .. | .no => []
  | .mx xs | .mn xs => xs
  | .call _ xs | .bx _ xs => xs
  | .callV f xs => f :: xs

theorem map_ev {F G : AF} {xs : List Operand} (h : ∀ x ∈ xs, F.ev x = G.ev x) : xs.map F.ev = xs.map G.ev := List.map_congr_left h
theorem omap_ev {F G : AF} {x : Option Operand} (h : ∀ y ∈ x.toList, F.ev y = G.ev y) : x.map F.ev = x.map G.ev := by
  cases x with
  | none => rfl
  | some y => simp only [Option.map_some]; rw [h y (by simp)]
theorem parts_ev {F G : AF} {ps : List (Nat × Nat × Operand)} (h : ∀ x ∈ ps.map (fun p => p.2.2), F.ev x = G.ev x) :
    ps.map (fun (p : Nat × Nat × Operand) => (p.1, p.2.1, F.ev p.2.2)) = ps.map fun (p : Nat × Nat × Operand) => (p.1, p.2.1, G.ev p.2.2) :=
  List.map_congr_left fun p hp => by rw [h p.2.2 (List.mem_map.mpr ⟨p, hp, rfl⟩)]
/-- An operation does the same at frames that agree in what it looks at. -/
theorem EOp.run_congr {e : EOp} {F G : AF} {S : AW} (h : ∀ x ∈ e.operands, F.ev x = G.ev x) : e.run F S = e.run G S := by
  cases e with
  | build z ps => simp only [EOp.operands] at h; simp only [EOp.run, parts_ev h]
  | lit a b c d ps => simp only [EOp.operands] at h; simp only [EOp.run, parts_ev h]
  | mx xs => simp only [EOp.operands] at h; simp only [EOp.run, map_ev h]
  | mn xs => simp only [EOp.operands] at h; simp only [EOp.run, map_ev h]
  | call f xs => simp only [EOp.operands] at h; simp only [EOp.run, map_ev h]
  | bx f xs => simp only [EOp.operands] at h; simp only [EOp.run, map_ev h]
  | callV f xs =>
    simp only [EOp.operands] at h
    simp only [EOp.run, h f (by simp), map_ev (F := F) (G := G) (xs := xs) fun x hx => h x (by simp [hx])]
  | mkf f fs cs =>
    simp only [EOp.operands] at h
    simp only [EOp.run, map_ev (F := F) (G := G) (xs := fs) fun x hx => h x (by simp [hx]), map_ev (F := F) (G := G) (xs := cs) fun x hx => h x (by simp [hx])]
  | slS x lo hi =>
    simp only [EOp.operands] at h
    simp only [EOp.run, h x (by simp), omap_ev (F := F) (G := G) (x := lo) fun y hy => h y (by simp only [List.mem_append]; exact .inl (.inr hy)), omap_ev (F := F) (G := G) (x := hi) fun y hy => h y (by simp only [List.mem_append]; exact .inr hy)]
  | slV n x lo hi mx =>
    simp only [EOp.operands] at h
    simp only [EOp.run, h x (by simp), omap_ev (F := F) (G := G) (x := lo) fun y hy => h y (by simp only [List.mem_append]; exact .inl (.inl (.inr hy))),
      omap_ev (F := F) (G := G) (x := hi) fun y hy => h y (by simp only [List.mem_append]; exact .inl (.inr hy)), omap_ev (F := F) (G := G) (x := mx) fun y hy => h y (by simp only [List.mem_append]; exact .inr hy)]
  | mkm r => simp only [EOp.operands] at h; simp only [EOp.run, omap_ev (F := F) (G := G) h]
  | con v => rfl
  | no => rfl
  | new a b c => rfl
  | _ =>
    simp only [EOp.operands, List.mem_cons, List.not_mem_nil, or_false, forall_eq_or_imp, forall_eq] at h
    simp only [EOp.run, h]

/-- A row of ours that the model has not made yet. -/
theorem RelW.ghost {W0 : Fz} {ρ : Ren} {S : AW} {w : World} (h : RelW W0 ρ S w) (c : List Value) (elem es : Nat) : RelW W0 ρ (S.new c elem es) w := by
  have hn := h.fresh S.next (Nat.le_refl _)
  have hne : ∀ i p, ρ i = some p → i ≠ S.next := by rintro i p hp rfl; rw [hn] at hp; cases hp
  refine ⟨h.below, fun i hi => ?_, fun i o ho => ?_, fun i r ho => ?_, fun i r ho => ?_, h.blk, fun i p r hp hr => ?_, ?_, fun i r hr hro => ?_, fun i p es' hp hm => ?_, ?_⟩
  · have hi' : S.next + 1 ≤ i := hi
    exact h.fresh i (by omega)
  · rw [AW.obj_new] at ho
    show i < S.next + 1
    split at ho
    · omega
    · have := h.objLt i o ho; omega
  · rw [AW.obj_new] at ho
    show r.fam < S.next + 1
    split at ho
    · simp only [Option.some.injEq, AObj.cells.injEq] at ho; subst ho; show S.next < S.next + 1; omega
    · have := h.famLt i r ho; omega
  · rw [AW.obj_new] at ho
    split at ho
    · simp only [Option.some.injEq, AObj.cells.injEq] at ho; subst ho; exact Nat.zero_le _
    · have e : (S.new c elem es).fam r.fam = S.fam r.fam := by rw [AW.fam_new, if_neg (by have := h.famLt i r ho; omega)]
      rw [e]; exact h.genLe i r ho
  · rw [h.raw_new _ _ _ (hne i p hp)] at hr
    exact h.cells i p r hp hr
  · intro i j p q r s hij hp hq hr hs hro hso hb
    rw [h.raw_new _ _ _ (hne i p hp)] at hr
    rw [h.raw_new _ _ _ (hne j q hq)] at hs
    obtain ⟨e1, e2, e3⟩ := h.apart i j p q r s hij hp hq hr hs hro hso hb
    refine ⟨e1, ?_, e3⟩
    rw [AW.fam_new, if_neg (by have := h.famLt i r (AW.raw_some hr).1; omega)]
    exact e2
  · by_cases hi : i = S.next
    · subst hi
      rw [AW.raw_new_same] at hr; simp only [Option.some.injEq] at hr; subst hr
      rw [AW.fam_new, if_pos rfl]; exact Nat.le_refl _
    · rw [h.raw_new _ _ _ hi] at hr
      rw [AW.fam_new, if_neg (by have := h.famLt i r (AW.raw_some hr).1; omega)]
      exact h.ext i r hr hro
  · rw [AW.mapv_new _ _ _ _ (hne i p hp)] at hm
    exact h.maps i p es' hp hm
  · intro i j p q es' fs hij hp hq hm hn'
    rw [AW.mapv_new _ _ _ _ (hne i p hp)] at hm
    rw [AW.mapv_new _ _ _ _ (hne j q hq)] at hn'
    exact h.mapsApart i j p q es' fs hij hp hq hm hn'

/-- Now the model has made it. -/
theorem RelW.made {W0 : Fz} {ρ : Ren} {S : AW} {w : World} (h : RelW W0 ρ S w) {i : Nat} (hi : ρ i = none) (hlt : i < S.next) {r : Raw} (hr : S.raw i = some r) (hro : r.ro = false) (C : Array Value) (F : Nat × Nat) (hF : Nf F C.size)
    (hc : ∀ (k : Nat) (v : Value), r.c[k]? = some v → isBad v = false → ∃ v', C[k]? = some v' ∧ VRel ρ v v') :
    RelW W0 (ρ.add i ⟨w.heap.size, 0, C.size, r.es⟩) S (w.alloc (.cells C r.elem F)) := by
  have hle := Ren.le_add (ρ := ρ) ⟨w.heap.size, 0, C.size, r.es⟩ hi
  have hm : S.mapv i = none := by unfold AW.mapv; rw [(AW.raw_some hr).1]
  refine ⟨h.below.alloc _, fun j hj => ?_, h.objLt, h.famLt, h.genLe, fun j p hp => ?_, fun j p s hp hs => ?_, ?_, h.ext, fun j p es' hp hm' => ?_, ?_⟩
  · rw [Ren.add_other _ (by omega)]; exact h.fresh j hj
  · simp only [World.size_alloc]
    by_cases hj : j = i
    · subst hj; rw [Ren.add_same] at hp; simp only [Option.some.injEq] at hp; subst hp; show w.heap.size < w.heap.size + 1; omega
    · rw [Ren.add_other _ hj] at hp; have := h.blk j p hp; omega
  · by_cases hj : j = i
    · subst hj
      rw [Ren.add_same] at hp; simp only [Option.some.injEq] at hp; subst hp
      rw [hr] at hs; simp only [Option.some.injEq] at hs; subst hs
      refine ⟨rfl, C, F, heap_alloc_new w _, rfl, fun k v hk hb => ?_, fun _ => ⟨h.below.fr, hF⟩, fun e => by rw [hro] at e; cases e⟩
      obtain ⟨v', e1, e2⟩ := hc k v hk hb
      exact ⟨k, v', by simp, e1, e2.mono hle⟩
    · rw [Ren.add_other _ hj] at hp
      exact (h.cells j p s hp hs).mono hle (heap_alloc_lt w _ (h.blk j p hp))
  · intro j k p q s t hjk hp hq hs ht hso hto hb
    by_cases hj : j = i
    · subst hj
      rw [Ren.add_same] at hp; simp only [Option.some.injEq] at hp; subst hp
      rw [Ren.add_other _ (Ne.symm hjk)] at hq
      have := h.blk k q hq
      simp only at hb; omega
    · by_cases hk : k = i
      · subst hk
        rw [Ren.add_same] at hq; simp only [Option.some.injEq] at hq; subst hq
        rw [Ren.add_other _ hj] at hp
        have := h.blk j p hp
        simp only at hb; omega
      · rw [Ren.add_other _ hj] at hp
        rw [Ren.add_other _ hk] at hq
        exact h.apart j k p q s t hjk hp hq hs ht hso hto hb
  · have hj : j ≠ i := by rintro rfl; rw [hm] at hm'; cases hm'
    rw [Ren.add_other _ hj] at hp
    obtain ⟨h1, ms, ck, h2, h3⟩ := h.maps j p es' hp hm'
    exact ⟨h1, ms, ck, (heap_alloc_lt w _ (h.blk j p hp)).trans h2, h3.1.mono hle, h3.2⟩
  · intro j k p q es' fs hjk hp hq hm1 hm2
    have hj : j ≠ i := by rintro rfl; rw [hm] at hm1; cases hm1
    have hk : k ≠ i := by rintro rfl; rw [hm] at hm2; cases hm2
    rw [Ren.add_other _ hj] at hp
    rw [Ren.add_other _ hk] at hq
    exact h.mapsApart j k p q es' fs hjk hp hq hm1 hm2
end Go.Proofs.Ythclmjelknibhaa.Ev
