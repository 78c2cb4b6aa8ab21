/- Maps: keys that are numbers, texts, truths or structs of such; what is found, what is laid in. -/
import Derived.Test.YthclmjelknibhaaEv13
import Derived.Maps.Keyed
import Derived.DeepKeys3
namespace Go.Proofs.Ythclmjelknibhaa.Ev
open Go Go.RowKit Go.Maps
set_option linter.unusedVariables false
set_option linter.unusedSimpArgs false
set_option linter.unusedSectionVars false

/-- A key type's leaf is a value's. -/
def leafOf (P : Program) (t : TypeId) : Option KL :=
  match P.underlying t with
  | some .string => some .str
  | some (.int q) => some (.int q)
  | some .bool => some .bl
  | _ => none
def fieldsAt (P : Program) : Nat → List Field → List KL → Bool
  | _, [], [] => true
  | i, f :: fs, l :: ls => decide (f.offset = i) && decide (P.cellsOf f.type = 1) && (match leafOf P f.type with | some l' => decide (l = l') | none => false) && fieldsAt P (i + 1) fs ls
  | _, _, _ => false
/-- The shape of a key type. -/
def ksOf (P : Program) (k : TypeId) : Option KS :=
  match leafOf P k with
  | some l => some (.one l)
  | none => match P.underlying k with
    | some (.struct fs) => match fs.toList.mapM (fun f => leafOf P f.type) with
      | some ls => if P.keyType k && P.keyTypeAt 3 k && P.tiled 3 k && decide (P.cellsOf k = fs.size) && fs.all (·.name != "_") && decide (0 < P.types.size) && fieldsAt P 0 fs.toList ls then some (.agg ls) else none
      | none => none
    | some (.array n e) => match leafOf P e with
      | some l => if P.keyType k && P.keyTypeAt 3 k && P.tiled 3 k && decide (P.cellsOf k = n) && decide (P.cellsOf e = 1) && decide (0 < P.types.size) then some (.agg (List.replicate n l)) else none
      | none => none
    | _ => none

theorem leafOf_some {P : Program} {t : TypeId} {l : KL} (h : leafOf P t = some l) : (l = .str ∧ P.underlying t = some .string) ∨ (∃ q, l = .int q ∧ P.underlying t = some (.int q)) ∨ (l = .bl ∧ P.underlying t = some .bool) := by
  unfold leafOf at h
  split at h
  · rename_i hu; simp only [Option.some.injEq] at h; exact .inl ⟨h.symm, hu⟩
  · rename_i q hu; simp only [Option.some.injEq] at h; exact .inr (.inl ⟨q, h.symm, hu⟩)
  · rename_i hu; simp only [Option.some.injEq] at h; exact .inr (.inr ⟨h.symm, hu⟩)
  · cases h

theorem keyed_of {P : Program} {k : TypeId} {ks : KS} (h : ksOf P k = some ks) : Keyed P k := by
  unfold ksOf at h
  split at h
  · rename_i l hl
    rcases leafOf_some hl with ⟨_, hu⟩ | ⟨q, _, hu⟩ | ⟨_, hu⟩
    · exact string_keyed hu
    · exact int_keyed hu
    · exact bool_keyed hu
  · split at h
    · rename_i fs hu
      split at h
      · split at h
        · rename_i hc
          simp only [Bool.and_eq_true] at hc
          exact Keyed.of_law (deep_law (m := 3) (by omega) hc.1.1.1.1.1.2 hc.1.1.1.1.2 (by rw [hu]))
        · cases h
      · cases h
    · rename_i n e hu
      split at h
      · split at h
        · rename_i hc
          simp only [Bool.and_eq_true] at hc
          exact Keyed.of_law (deep_law (m := 3) (by omega) hc.1.1.1.1.2 hc.1.1.1.2 (by rw [hu]))
        · cases h
      · cases h
    · cases h

theorem fitsL_lits {P : Program} {d : Nat} {t : TypeId} {l : KL} (h : leafOf P t = some l) {v : Value} (hv : fitsL l v = true) : ∃ ls, P.keyLits (d + 1) t [v] = some ls := by
  rcases leafOf_some h with ⟨rfl, hu⟩ | ⟨q, rfl, hu⟩ | ⟨rfl, hu⟩
  · cases v <;> simp [fitsL] at hv
    exact ⟨_, by simp only [Program.keyLits, hu]; rw [if_pos hv]⟩
  · cases v <;> simp [fitsL] at hv
    exact ⟨_, by simp only [Program.keyLits, hu]; rw [if_pos ⟨hv.1.symm, by rw [hv.1]; exact hv.2⟩]⟩
  · cases v <;> simp [fitsL] at hv
    rename_i b
    exact ⟨[.bool b], by simp only [Program.keyLits, hu]⟩

theorem fits_fields {P : Program} {d : Nat} {cs : List Value} : ∀ (fs : List Field) (ls : List KL) (i : Nat), fieldsAt P i fs ls = true → fitsLs ls (cs.drop i) = true → ∃ r, fs.mapM (fun f => P.keyLits (d + 1) f.type ((cs.drop f.offset).take (P.cellsOf f.type))) = some r
  | [], _, _, _, _ => ⟨[], rfl⟩
  | f :: fs, [], i, h, _ => by simp [fieldsAt] at h
  | f :: fs, l :: ls, i, h, hv => by
    simp only [fieldsAt, Bool.and_eq_true, decide_eq_true_eq] at h
    obtain ⟨⟨⟨h1, h2⟩, h3⟩, h4⟩ := h
    split at h3
    · rename_i l' hl'
      simp only [decide_eq_true_eq] at h3
      subst h3
      cases hd : cs.drop i with
      | nil => rw [hd] at hv; simp [fitsLs] at hv
      | cons v vs =>
        rw [hd] at hv
        simp only [fitsLs, Bool.and_eq_true] at hv
        obtain ⟨a, ha⟩ := fitsL_lits (d := d) hl' hv.1
        have hvs : cs.drop (i + 1) = vs := by rw [← List.drop_drop, hd]; rfl
        obtain ⟨r, hr⟩ := fits_fields (d := d) (cs := cs) fs ls (i + 1) h4 (by rw [hvs]; exact hv.2)
        refine ⟨a :: r, ?_⟩
        simp only [List.mapM_cons, h1, h2, hd, List.take_succ_cons, List.take_zero, ha, hr, Option.bind_eq_bind, Option.bind_some, Option.pure_def]
    · cases h3

theorem fits_items {P : Program} {d : Nat} {e : TypeId} {l : KL} (hl : leafOf P e = some l) {cs : List Value} : ∀ (m i : Nat), fitsLs (List.replicate m l) (cs.drop i) = true → ∃ r, (List.range' i m).mapM (fun j => P.keyLits (d + 1) e ((cs.drop (j * 1)).take 1)) = some r
  | 0, i, _ => ⟨[], rfl⟩
  | m + 1, i, hv => by
    cases hd : cs.drop i with
    | nil => rw [hd] at hv; simp [fitsLs, List.replicate_succ] at hv
    | cons v vs =>
      rw [hd] at hv
      simp only [List.replicate_succ, fitsLs, Bool.and_eq_true] at hv
      obtain ⟨a, ha⟩ := fitsL_lits (d := d) hl hv.1
      have hvs : cs.drop (i + 1) = vs := by rw [← List.drop_drop, hd]; rfl
      obtain ⟨r, hr⟩ := fits_items (d := d) hl (cs := cs) m (i + 1) (by rw [hvs]; exact hv.2)
      refine ⟨a :: r, ?_⟩
      simp only [List.range'_succ, List.mapM_cons, Nat.mul_one, hd, List.take_succ_cons, List.take_zero, ha, Option.bind_eq_bind, Option.bind_some, Option.pure_def]
      simp only [Nat.mul_one] at hr
      rw [hr]
      rfl

theorem fits_keyOf {P : Program} {k : TypeId} {ks : KS} (h : ksOf P k = some ks) {v : Value} (hv : fits ks v = true) : ∃ l, keyOf P k v = some l := by
  unfold ksOf at h
  split at h
  · rename_i l hl
    simp only [Option.some.injEq] at h
    subst h
    simp only [fits] at hv
    rcases leafOf_some hl with ⟨rfl, hu⟩ | ⟨q, rfl, hu⟩ | ⟨rfl, hu⟩
    · cases v <;> simp [fitsL] at hv
      exact ⟨_, by simp only [keyOf, mapKey, hu]; rw [if_pos hv]⟩
    · cases v <;> simp [fitsL] at hv
      exact ⟨_, by simp only [keyOf, mapKey, hu]; rw [if_pos ⟨hv.1.symm, by rw [hv.1]; exact hv.2⟩]⟩
    · cases v <;> simp [fitsL] at hv
      rename_i b
      exact ⟨.bool b, by simp only [keyOf, mapKey, hu]⟩
  · split at h
    · rename_i fs hu
      split at h
      · rename_i ls hls
        split at h
        · rename_i hc
          simp only [Option.some.injEq] at h
          subst h
          simp only [Bool.and_eq_true, decide_eq_true_eq] at hc
          obtain ⟨⟨⟨⟨⟨⟨c1, c2⟩, c3⟩, c4⟩, c5⟩, c6⟩, c7⟩ := hc
          cases v <;> simp only [fits, Bool.false_eq_true] at hv
          rename_i cs
          simp only [Bool.and_eq_true, decide_eq_true_eq] at hv
          have hlen : ls.length = fs.toList.length := by
            have : ∀ (fs : List Field) (ls : List KL) (i : Nat), fieldsAt P i fs ls = true → ls.length = fs.length := by
              intro fs
              induction fs with
              | nil => intro ls i h; cases ls <;> simp [fieldsAt] at h ⊢
              | cons f fs ih =>
                intro ls i h
                cases ls with
                | nil => simp [fieldsAt] at h
                | cons l ls =>
                  simp only [fieldsAt, Bool.and_eq_true] at h
                  simp [ih ls (i + 1) h.2]
            exact this _ _ _ c7
          obtain ⟨T, hT⟩ : ∃ T, P.types.size = T + 1 := ⟨P.types.size - 1, by omega⟩
          obtain ⟨r, hr⟩ := fits_fields (d := T) (cs := cs.toList) fs.toList ls 0 c7 (by simpa using hv.2)
          have hcs : cs.size = fs.size := by have := hv.1; simp at this hlen; omega
          have hlits : P.keyLits (P.types.size + 1) k cs.toList = some r.flatten := by
            rw [hT]
            unfold Program.keyLits
            split
            · rename_i e _; rw [hu] at e; cases e
            · rename_i e _; rw [hu] at e; cases e
            · rename_i e _; rw [hu] at e; cases e
            · rename_i e; rw [hu] at e; cases e
            · rename_i fs' e
              rw [hu] at e
              simp only [Option.some.injEq, TypeDesc.struct.injEq] at e
              subst e
              rw [if_pos ⟨by simp [hcs, c4], c5⟩]
              simp only [hr, Option.map_some]
            · rename_i e1 e2 e3 e4 e5; first | exact (e5 fs hu).elim | exact (e4 fs hu).elim | exact (e4 fs _ hu rfl).elim | exact (e5 fs _ hu rfl).elim | (exfalso; simp_all)
          refine ⟨.string (keyBytes r.flatten), ?_⟩
          simp only [keyOf, hu, c1, Value.formed, Value.cells, hcs, c4, beq_self_eq_true, Bool.and_self, if_true, hlits, Option.map_some]
        · cases h
      · cases h
    · rename_i n e hu
      split at h
      · rename_i l hl
        split at h
        · rename_i hc
          simp only [Option.some.injEq] at h
          subst h
          simp only [Bool.and_eq_true, decide_eq_true_eq] at hc
          obtain ⟨⟨⟨⟨⟨c1, c2⟩, c3⟩, c4⟩, c5⟩, c6⟩ := hc
          cases v <;> simp only [fits, Bool.false_eq_true] at hv
          rename_i cs
          simp only [Bool.and_eq_true, decide_eq_true_eq, List.length_replicate] at hv
          obtain ⟨T, hT⟩ : ∃ T, P.types.size = T + 1 := ⟨P.types.size - 1, by omega⟩
          obtain ⟨r, hr⟩ := fits_items (d := T) hl (cs := cs.toList) n 0 (by simpa using hv.2)
          have hcs : cs.size = n := hv.1
          have hlits : P.keyLits (P.types.size + 1) k cs.toList = some r.flatten := by
            rw [hT]
            unfold Program.keyLits
            split
            · rename_i e _; rw [hu] at e; cases e
            · rename_i e _; rw [hu] at e; cases e
            · rename_i e _; rw [hu] at e; cases e
            · rename_i n' e' e2
              rw [hu] at e2
              simp only [Option.some.injEq, TypeDesc.array.injEq] at e2
              obtain ⟨rfl, rfl⟩ := e2
              rw [if_pos (by simp [hcs, c4])]
              rw [c5, List.range_eq_range', hr]
              rfl
            · rename_i e; rw [hu] at e; cases e
            · exfalso; simp_all
          refine ⟨.string (keyBytes r.flatten), ?_⟩
          simp only [keyOf, hu, c1, Value.formed, Value.cells, hcs, c4, beq_self_eq_true, Bool.and_self, if_true, hlits, Option.map_some]
        · cases h
      · cases h
    · cases h

theorem fitsL_scalar {l : KL} {v : Value} (h : fitsL l v = true) : scalar v = true := by
  cases l <;> cases v <;> simp [fitsL] at h <;> rfl
theorem fitsLs_scalar : ∀ {ls : List KL} {vs : List Value}, fitsLs ls vs = true → vs.all scalar = true
  | [], [], _ => rfl
  | l :: ls, v :: vs, h => by
    simp only [fitsLs, Bool.and_eq_true] at h
    simp only [List.all_cons, fitsL_scalar h.1, fitsLs_scalar h.2, Bool.and_self]
  | [], _ :: _, h => by simp [fitsLs] at h
  | _ :: _, [], h => by simp [fitsLs] at h
theorem fits_flat {ks : KS} {v : Value} (h : fits ks v = true) : flat v = true := by
  cases ks with
  | one l =>
    have := fitsL_scalar h
    cases v <;> first | exact this | simp [scalar] at this
  | agg ls =>
    cases v <;> simp only [fits, Bool.false_eq_true] at h
    simp only [Bool.and_eq_true] at h
    exact fitsLs_scalar h.2

theorem keqL_iff {l : KL} {a b : Value} (ha : fitsL l a = true) (hb : fitsL l b = true) : keqL a b = true ↔ a = b := by
  cases l <;> cases a <;> simp [fitsL] at ha <;> cases b <;> simp [fitsL] at hb <;> simp [keqL]
theorem keqLs_iff : ∀ {ls : List KL} {as bs : List Value}, fitsLs ls as = true → fitsLs ls bs = true → (keqLs as bs = true ↔ as = bs)
  | [], [], [], _, _ => by simp [keqLs]
  | l :: ls, a :: as, b :: bs, ha, hb => by
    simp only [fitsLs, Bool.and_eq_true] at ha hb
    simp only [keqLs, Bool.and_eq_true, keqL_iff ha.1 hb.1, keqLs_iff ha.2 hb.2, List.cons.injEq]
  | [], _ :: _, _, h, _ => by simp [fitsLs] at h
  | [], [], _ :: _, _, h => by simp [fitsLs] at h
  | _ :: _, [], _, h, _ => by simp [fitsLs] at h
  | _ :: _, _ :: _, [], _, h => by simp [fitsLs] at h
theorem keq_iff {ks : KS} {a b : Value} (ha : fits ks a = true) (hb : fits ks b = true) : keq ks a b = true ↔ a = b := by
  cases ks with
  | one l => exact keqL_iff ha hb
  | agg ls =>
    cases a <;> simp only [fits, Bool.false_eq_true] at ha
    cases b <;> simp only [fits, Bool.false_eq_true] at hb
    simp only [Bool.and_eq_true] at ha hb
    simp only [keq, keqLs_iff ha.2 hb.2, Value.agg.injEq]
    constructor
    · intro h; exact Array.toList_inj.mp h
    · rintro rfl; rfl

theorem mixs_mem {ks : KS} {k : Value} : ∀ (es : List (Value × Value)) (n i : Nat), i ∈ mixs ks k es n ↔ ∃ j e, i = n + j ∧ es[j]? = some e ∧ keq ks k e.1 = true
  | [], n, i => by simp [mixs]
  | e :: es, n, i => by
    have ih := mixs_mem (ks := ks) (k := k) es (n + 1) i
    have tail : (∃ j e', i = n + 1 + j ∧ es[j]? = some e' ∧ keq ks k e'.1 = true) ↔ ∃ j e', i = n + (j + 1) ∧ (e :: es)[j + 1]? = some e' ∧ keq ks k e'.1 = true := by
      constructor
      · rintro ⟨j, e', h1, h2, h3⟩; exact ⟨j, e', by omega, by simpa using h2, h3⟩
      · rintro ⟨j, e', h1, h2, h3⟩; exact ⟨j, e', by omega, by simpa using h2, h3⟩
    simp only [mixs]
    split
    · rename_i hk
      rw [List.mem_cons, ih, tail]
      constructor
      · rintro (rfl | ⟨j, e', h1, h2, h3⟩)
        · exact ⟨0, e, by omega, rfl, hk⟩
        · exact ⟨j + 1, e', h1, h2, h3⟩
      · rintro ⟨j, e', h1, h2, h3⟩
        cases j with
        | zero => exact .inl (by omega)
        | succ j => exact .inr ⟨j, e', h1, h2, h3⟩
    · rename_i hk
      rw [ih, tail]
      constructor
      · rintro ⟨j, e', h1, h2, h3⟩; exact ⟨j + 1, e', h1, h2, h3⟩
      · rintro ⟨j, e', h1, h2, h3⟩
        cases j with
        | zero =>
          simp only [List.getElem?_cons_zero, Option.some.injEq] at h2
          subst h2
          exact absurd h3 hk
        | succ j => exact ⟨j, e', h1, h2, h3⟩

/-- Where a key is found in ours, the model finds it there. -/
theorem find_ok {P : Program} {k : TypeId} {ks : KS} (h : ksOf P k = some ks) {ρ : Ren} {es : List (Value × Value)} {ms : List MapEntry} (hE : ERel ρ es ms) {key key' : Value} (hk : VRel ρ key key') {o : Option Nat} (e : mfind ks key es = some o) (w : World) :
    key' = key ∧ (∀ em, (Instr.checkKey em 10000 k key').run P w = .ok () w) ∧ (Instr.keyThatStays key' key').run P w = .ok key' w ∧ match o with
      | none => (Instr.findKey k key' ms).run P w = .ok none w
      | some j => ∃ x y, es[j]? = some x ∧ ms[j]? = some y ∧ y.key = key' ∧ VRel ρ x.2 y.val ∧ (Instr.findKey k key' ms).run P w = .ok (some (j, y.val)) w := by
  unfold mfind at e
  split at e
  · rename_i hfit
    simp only [Bool.and_eq_true, List.all_eq_true] at hfit
    have hkk : key' = key := hk.of_flat (fits_flat hfit.1)
    subst hkk
    have K := keyed_of h
    obtain ⟨l, hl⟩ := fits_keyOf h hfit.1
    have hkeys : ∀ (j : Nat) (y : MapEntry), ms[j]? = some y → ∃ x, es[j]? = some x ∧ y.key = x.1 ∧ fits ks x.1 = true ∧ VRel ρ x.2 y.val := by
      intro j y hy
      obtain ⟨hj, hy'⟩ := List.getElem?_eq_some_iff.mp hy
      have hj2 : j < es.length := by rw [hE.1]; exact hj
      obtain ⟨q1, q2⟩ := hE.2 j hj2 hj
      rw [hy'] at q1 q2
      have hf := hfit.2 _ (List.getElem_mem hj2)
      exact ⟨es[j], List.getElem?_eq_getElem hj2, q1.of_flat (fits_flat hf), hf, q2⟩
    refine ⟨rfl, fun em => K.check w em hl, K.stays w hl, ?_⟩
    have hall : ∀ y ∈ ms, ∃ l, keyOf P k y.key = some l := by
      intro y hy
      obtain ⟨j, hj⟩ := List.mem_iff_getElem?.mp hy
      obtain ⟨x, _, h2, h3, _⟩ := hkeys j y hj
      rw [h2]
      exact fits_keyOf h h3
    have hmem : ∀ (j : Nat) (y : MapEntry), ms[j]? = some y → y.key = key' → j ∈ mixs ks key' es 0 := by
      intro j y hy hyk
      obtain ⟨x, h1, h2, h3, _⟩ := hkeys j y hy
      rw [mixs_mem]
      exact ⟨j, x, by omega, h1, (keq_iff hfit.1 h3).mpr (by rw [← h2, hyk])⟩
    rcases K.find w hl ms hall with ⟨f1, f2⟩ | ⟨j, y, f1, f2, f3⟩
    · split at e
      · simp only [Option.some.injEq] at e
        subst e
        exact f1
      · rename_i i hi
        have : i ∈ mixs ks key' es 0 := by rw [hi]; exact List.mem_singleton.mpr rfl
        rw [mixs_mem] at this
        obtain ⟨j, x, hj0, hj1, hj2⟩ := this
        have hj3 := (List.getElem?_eq_some_iff.mp hj1).1
        have hj4 : j < ms.length := by rw [← hE.1]; exact hj3
        obtain ⟨x', g1, g2, g3, _⟩ := hkeys j _ (List.getElem?_eq_getElem hj4)
        rw [hj1] at g1
        simp only [Option.some.injEq] at g1
        subst g1
        exact absurd (by rw [g2]; exact ((keq_iff hfit.1 g3).mp hj2).symm) (f2 _ (List.getElem_mem hj4))
      · cases e
    · have hin := hmem j y f2 f3
      split at e
      · rename_i hi; rw [hi] at hin; cases hin
      · rename_i i hi
        simp only [Option.some.injEq] at e
        subst e
        rw [hi] at hin
        simp only [List.mem_singleton] at hin
        subst hin
        obtain ⟨x, h1, h2, h3, h4⟩ := hkeys j y f2
        exact ⟨x, y, h1, f2, f3, h4, f1⟩
      · cases e
  · cases e

theorem run_getObj {P : Program} {w : World} {r : Nat} {ms : Array MapEntry} {ck : Nat} (h : w.heap[r]? = some (.map ms ck)) : (getObj r).run P w = .ok (.map ms ck) w := by
  simp [getObj, Sem.run, h]
theorem run_setObj {P : Program} {w : World} {r : Nat} {ms : Array MapEntry} {ck : Nat} (h : w.heap[r]? = some (.map ms ck)) (o : Obj) : ∃ w', (setObj r o).run P w = .ok () w' ∧ Laid w w' r o := by
  refine ⟨{ w with heap := w.heap.setIfInBounds r o }, ?_, ⟨rfl, rfl, rfl, rfl⟩⟩
  simp [setObj, Sem.run, h]
theorem VRel.map_inv {ρ : Ren} {i : Nat} {x' : Value} (h : VRel ρ (.map (some i)) x') : ∃ p, ρ i = some p ∧ x' = .map (some p.blk) := by
  cases h with
  | map h => exact ⟨_, h, rfl⟩
theorem VRel.mapn_inv {ρ : Ren} {x' : Value} (h : VRel ρ (.map none) x') : x' = .map none := by cases h; rfl
theorem ERel.nil {ρ : Ren} : ERel ρ [] [] := ⟨rfl, fun i h => absurd h (by simp)⟩
theorem look_out {ρ : Ren} {ok b : Bool} {v v' : Value} (h : VRel ρ v v') : VRel ρ (lookOut ok v b) (if ok then .tuple #[v', .bool b] else v') := by
  cases ok with
  | false => exact h
  | true =>
    refine .tuple _ _ rfl fun i h1 h2 => ?_
    match i, h1 with
    | 0, _ => exact h
    | 1, _ => exact .bool b

theorem mlk_ok (P : Program) {xT kT elem : TypeId} (hu : P.underlying xT = some (.map kT elem)) {ks : KS} (hks : ksOf P kT = some ks) {inf : TypeInfo} {z : Value} (hi : P.info? elem = some inf) (hz : inf.zero = some z) (hf : flat z = true)
    {W0 : Fz} {ρ : Ren} {S : AW} {w : World} (h : RelW W0 ρ S w) {ok : Bool} {x x' k k' v : Value} (rx : VRel ρ x x') (rk : VRel ρ k k') (e : mlkV S ks z ok x k = some v) :
    ∃ v', (Instr.lookup xT x' k' ok).run P w = .ok v' w ∧ VRel ρ v v' := by
  unfold mlkV at e
  split at e
  · have := rx.mapn_inv
    subst this
    split at e
    · rename_i o ho
      simp only [Option.some.injEq] at e
      subst e
      obtain ⟨e1, e2, _, e3⟩ := find_ok hks ERel.nil rk ho w
      have : o = none := by
        unfold mfind at ho
        split at ho
        · simp only [mixs, Option.some.injEq] at ho; exact ho.symm
        · cases ho
      subst this
      refine ⟨if ok then .tuple #[z, .bool false] else z, ?_, look_out (.flat_refl hf)⟩
      simp only at e3
      simp only [Instr.lookup, Sem.run_bind, run_underlying hu, Result.andThen_ok, Sem.run_pure, List.isEmpty_toArray, List.isEmpty_nil, Array.isEmpty_empty, e2, e3, run_zero hi hz]
    · cases e
  · rename_i i
    obtain ⟨p, hp, rfl⟩ := rx.map_inv
    split at e
    · rename_i es hes
      obtain ⟨hlow, ms, ck, hb, hE, hB⟩ := h.maps i p es hp hes
      split at e
      · rename_i ho
        simp only [Option.some.injEq] at e
        subst e
        obtain ⟨e1, e2, _, e3⟩ := find_ok hks hE rk ho w
        refine ⟨if ok then .tuple #[z, .bool false] else z, ?_, look_out (.flat_refl hf)⟩
        simp only at e3
        simp only [Instr.lookup, Sem.run_bind, run_underlying hu, Result.andThen_ok, Sem.run_pure, run_getObj hb, e2, e3, run_zero hi hz]
      · rename_i j ho
        split at e
        · rename_i en hen
          simp only [Option.some.injEq] at e
          subst e
          obtain ⟨e1, e2, _, e3⟩ := find_ok hks hE rk ho w
          obtain ⟨x, y, g1, g2, g3, g4, g5⟩ := e3
          rw [hen] at g1
          simp only [Option.some.injEq] at g1
          subst g1
          refine ⟨if ok then .tuple #[y.val, .bool true] else y.val, ?_, look_out g4⟩
          simp only [Instr.lookup, Sem.run_bind, run_underlying hu, Result.andThen_ok, Sem.run_pure, run_getObj hb, e2, g5]
        · cases e
      · cases e
    · cases e
  · cases e

theorem ERel.push {ρ : Ren} {es : List (Value × Value)} {ms : Array MapEntry} (h : ERel ρ es ms.toList) {k v k' v' : Value} (hk : VRel ρ k k') (hv : VRel ρ v v') (b : Nat) : ERel ρ (es ++ [(k, v)]) (ms.push { key := k', val := v', born := b }).toList := by
  have hl := h.1
  refine ⟨by simp [hl], fun i h1 h2 => ?_⟩
  simp only [Array.toList_push]
  by_cases hi : i < es.length
  · have hi2 : i < ms.toList.length := by omega
    rw [List.getElem_append_left hi, List.getElem_append_left hi2]
    exact h.2 i hi hi2
  · have hie : i = es.length := by simp at h1; omega
    subst hie
    rw [List.getElem_append_right (Nat.le_refl _), List.getElem_append_right (by omega)]
    simp only [Nat.sub_self, hl, List.getElem_cons_zero]
    exact ⟨hk, hv⟩
theorem ERel.set {ρ : Ren} {es : List (Value × Value)} {ms : Array MapEntry} (h : ERel ρ es ms.toList) {k v k' v' : Value} (hk : VRel ρ k k') (hv : VRel ρ v v') (j : Nat) : ERel ρ (es.set j (k, v)) (ms.modify j fun e => { e with key := k', val := v' }).toList := by
  have hl := h.1
  refine ⟨by simp at hl ⊢; exact hl, fun i h1 h2 => ?_⟩
  simp only [List.length_set] at h1
  have hi2 : i < ms.toList.length := by omega
  have q := h.2 i h1 hi2
  simp only [Array.getElem_toList, Array.getElem_modify, List.getElem_set]
  by_cases hij : j = i
  · subst hij
    simp only [if_true]
    exact ⟨hk, hv⟩
  · simp only [if_neg hij]
    exact q
theorem ERel.erase {ρ : Ren} {es : List (Value × Value)} {ms : Array MapEntry} (h : ERel ρ es ms.toList) (j : Nat) : ERel ρ (es.eraseIdx j) (ms.eraseIdxIfInBounds j).toList := by
  have hl := h.1
  have e : (ms.eraseIdxIfInBounds j).toList = ms.toList.eraseIdx j := by simp
  rw [e]
  refine ⟨by simp only [List.length_eraseIdx, hl], fun i h1 h2 => ?_⟩
  simp only [List.getElem_eraseIdx]
  split
  · exact h.2 i _ _
  · exact h.2 (i + 1) _ _

theorem mup_ok (P : Program) {xT kT elem : TypeId} (hu : P.underlying xT = some (.map kT elem)) {ks : KS} (hks : ksOf P kT = some ks)
    {W0 : Fz} {ρ : Ren} {S : AW} {w : World} (h : RelW W0 ρ S w) {x x' k k' v v' : Value} (rx : VRel ρ x x') (rk : VRel ρ k k') (rv : VRel ρ v v') {S' : AW} (e : mupV S ks x k v = some S') :
    ∃ w', (Instr.mapUpdate xT x' k' v').run P w = .ok () w' ∧ RelW W0 ρ S' w' ∧ S'.next = S.next := by
  unfold mupV at e
  split at e
  · rename_i i
    obtain ⟨p, hp, rfl⟩ := rx.map_inv
    split at e
    · rename_i es hes
      obtain ⟨hlow, ms, ck, hb, hE, hB⟩ := h.maps i p es hp hes
      split at e
      · rename_i ho
        simp only [Option.some.injEq] at e
        subst e
        obtain ⟨e1, e2, _, e3⟩ := find_ok hks hE rk ho w
        simp only at e3
        obtain ⟨w', k1, k2⟩ := run_setObj (P := P) hb (.map (ms.push { key := k', val := v', born := ck }) (ck + 1))
        refine ⟨w', ?_, h.putMap hp hes _ _ _ _ (hE.push rk rv ck) (hB.push _ _) k2, rfl⟩
        simp only [Instr.mapUpdate, Sem.run_bind, run_underlying hu, Result.andThen_ok, Sem.run_pure, run_getObj hb, e2, e3, k1]
      · rename_i j ho
        simp only [Option.some.injEq] at e
        subst e
        obtain ⟨e1, e2, e4, e3⟩ := find_ok hks hE rk ho w
        obtain ⟨y, m, g1, g2, g3, g4, g5⟩ := e3
        obtain ⟨w', k1, k2⟩ := run_setObj (P := P) hb (.map (ms.modify j fun e => { e with key := k', val := v' }) ck)
        refine ⟨w', ?_, h.putMap hp hes _ _ _ _ (hE.set rk rv j) (hB.modify _ _ _) k2, rfl⟩
        have hkey : ((ms[j]?).map (·.key)).getD k' = k' := by
          rw [Array.getElem?_toList] at g2
          rw [g2]
          exact g3
        simp only [Instr.mapUpdate, Sem.run_bind, run_underlying hu, Result.andThen_ok, Sem.run_pure, run_getObj hb, e2, g5, hkey, e4, k1]
      · cases e
    · cases e
  · cases e

theorem mdel_ok (P : Program) {argTypes : Array TypeId} {ty xT kT elem : TypeId} (h0 : argTypes[0]? = some xT) (hu : P.underlying xT = some (.map kT elem)) {ks : KS} (hks : ksOf P kT = some ks)
    {W0 : Fz} {ρ : Ren} {S : AW} {w : World} (h : RelW W0 ρ S w) {x x' k k' : Value} (rx : VRel ρ x x') (rk : VRel ρ k k') {S' : AW} (e : mdelV S ks x k = some S') :
    ∃ w', (Builtin.delete_ argTypes ty #[x', k']).run P w = .ok (.tuple #[]) w' ∧ RelW W0 ρ S' w' ∧ S'.next = S.next := by
  unfold mdelV at e
  split at e
  · have := rx.mapn_inv
    subst this
    split at e
    · rename_i o ho
      simp only [Option.some.injEq] at e
      subst e
      obtain ⟨e1, e2, _, _⟩ := find_ok hks ERel.nil rk ho w
      refine ⟨w, ?_, h, rfl⟩
      simp only [Builtin.delete_, h0, List.getElem?_toArray, List.getElem?_cons_zero, List.getElem?_cons_succ, Sem.run_bind, run_underlying hu, Result.andThen_ok, e2, Sem.run_pure]
    · cases e
  · rename_i i
    obtain ⟨p, hp, rfl⟩ := rx.map_inv
    split at e
    · rename_i es hes
      obtain ⟨hlow, ms, ck, hb, hE, hB⟩ := h.maps i p es hp hes
      split at e
      · rename_i ho
        simp only [Option.some.injEq] at e
        subst e
        obtain ⟨e1, e2, _, e3⟩ := find_ok hks hE rk ho w
        simp only at e3
        obtain ⟨w', k1, k2⟩ := run_setObj (P := P) hb (.map ms ck)
        refine ⟨w', ?_, h.putMap hp hes _ _ _ _ hE hB k2, rfl⟩
        simp only [Builtin.delete_, h0, List.getElem?_toArray, List.getElem?_cons_zero, List.getElem?_cons_succ, Sem.run_bind, run_underlying hu, Result.andThen_ok, run_getObj hb, e2, e3, k1, Sem.run_pure]
      · rename_i j ho
        simp only [Option.some.injEq] at e
        subst e
        obtain ⟨e1, e2, e4, e3⟩ := find_ok hks hE rk ho w
        obtain ⟨y, m, g1, g2, g3, g4, g5⟩ := e3
        obtain ⟨w', k1, k2⟩ := run_setObj (P := P) hb (.map (ms.eraseIdxIfInBounds j) ck)
        refine ⟨w', ?_, h.putMap hp hes _ _ _ _ (hE.erase j) (hB.erase j) k2, rfl⟩
        simp only [Builtin.delete_, h0, List.getElem?_toArray, List.getElem?_cons_zero, List.getElem?_cons_succ, Sem.run_bind, run_underlying hu, Result.andThen_ok, run_getObj hb, e2, g5, k1, Sem.run_pure]
      · cases e
    · cases e
  · cases e

theorem lenM_ok (P : Program) {argTypes : Array TypeId} {ty xT kT elem : TypeId} (h0 : argTypes[0]? = some xT) (hu : P.underlying xT = some (.map kT elem))
    {W0 : Fz} {ρ : Ren} {S : AW} {w : World} (h : RelW W0 ρ S w) {x x' v : Value} (rx : VRel ρ x x') (e : lenMV S x = some v) :
    ∃ v', (Builtin.len_ argTypes ty #[x']).run P w = .ok v' w ∧ VRel ρ v v' := by
  unfold lenMV at e
  split at e
  · have := rx.mapn_inv
    subst this
    simp only [Option.some.injEq] at e
    subst e
    refine ⟨_, ?_, .int _ _⟩
    simp only [Builtin.len_, h0, List.getElem?_toArray, List.getElem?_cons_zero, Sem.run_bind, run_underlying hu, Result.andThen_ok, Sem.run_pure, goInt]
  · rename_i i
    obtain ⟨p, hp, rfl⟩ := rx.map_inv
    split at e
    · rename_i es hes
      obtain ⟨hlow, ms, ck, hb, hE, hB⟩ := h.maps i p es hp hes
      simp only [Option.some.injEq] at e
      subst e
      have hl : es.length = ms.size := by simpa using hE.1
      refine ⟨_, ?_, .int _ _⟩
      simp only [Builtin.len_, h0, List.getElem?_toArray, List.getElem?_cons_zero, Sem.run_bind, run_underlying hu, Result.andThen_ok, run_getObj hb, Sem.run_pure, goInt, hl]
    · cases e
  · cases e

theorem mkm_ok (P : Program) {t kT elem : TypeId} (hu : P.underlying t = some (.map kT elem)) {W0 : Fz} {ρ : Ren} {S : AW} {w : World} (h : RelW W0 ρ S w) {r r' : Option Value} (hr : ∀ v, r = some v → ∃ v', r' = some v' ∧ VRel ρ v v') (hn : r = none → r' = none) {o : Option Int} (e : oint r = some o) :
    ∃ ρ' v' w', Grow S.next (S.next + 1) ρ ρ' ∧ (Instr.makeMap t r').run P w = .ok v' w' ∧ RelW W0 ρ' S.newMap w' ∧ VRel ρ' (.map (some S.next)) v' := by
  refine ⟨_, _, _, Grow.add _ (h.fresh _ (Nat.le_refl _)), ?_, h.newMap, .map (Ren.add_same _ _ _)⟩
  cases r with
  | none =>
    rw [hn rfl]
    simp only [Instr.makeMap, Sem.run_bind, run_newObj, Result.andThen_ok, Sem.run_pure]
    rfl
  | some v =>
    obtain ⟨v', rfl, hv⟩ := hr v rfl
    cases v <;> simp only [oint, reduceCtorEq] at e
    have := hv.int_inv
    subst this
    simp only [Instr.makeMap, Sem.run_bind, run_underlying hu, asInt, run_newObj, Result.andThen_ok, Sem.run_pure]
    rfl
end Go.Proofs.Ythclmjelknibhaa.Ev
