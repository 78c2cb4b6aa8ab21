/- Loops over a map: whichever entry comes next. -/
import Derived.Test.YthclmjelknibhaaEvN
import Derived.Maps.RangeRun
import Derived.Test.YthclmjelknibhaaProg
import Derived.KernelRfl
namespace Go.Proofs.Ythclmjelknibhaa.Ev
open Go Go.RowKit
open Go.ChangeMaps (setBlock)
set_option linter.unusedVariables false
set_option linter.unusedSimpArgs false
set_option linter.unusedSectionVars false

theorem Bel.setr {W0 : Fz} {w : World} (h : Bel W0 w) {r : Nat} (hz : ¬ W0.z r) (o : Obj) : Bel W0 (setBlock w r o) :=
  ⟨h.os, h.tape, h.output, by simpa [setBlock] using h.size, fun k hk => by
    show (w.heap.setIfInBounds r o)[k]? = _
    rw [Array.getElem?_setIfInBounds, if_neg (fun e => hz (by rw [e]; exact hk))]
    exact h.block k hk⟩
/-- An iterator goes on. -/
theorem RelW.setr {W0 : Fz} {ρ : Ren} {S : AW} {w : World} (h : RelW W0 ρ S w) {r : Nat} {m s c} {seen : Array Nat} (hr : w.heap[r]? = some (.mapIter m s seen c)) (hz : ¬ W0.z r) (o : Obj) : RelW W0 ρ S (setBlock w r o) := by
  have ho : ∀ k, k ≠ r → (setBlock w r o).heap[k]? = w.heap[k]? := fun k hk => by
    show (w.heap.setIfInBounds r o)[k]? = _
    rw [Array.getElem?_setIfInBounds, if_neg (Ne.symm hk)]
  refine ⟨h.below.setr hz o, h.fresh, h.objLt, h.famLt, h.genLe, fun i p hp => by have := h.blk i p hp; simpa [setBlock] using this, fun i p q hp hq => ?_, h.apart, h.ext, fun i p es hp hm => ?_, h.mapsApart⟩
  · have hc := h.cells i p q hp hq
    refine hc.mono (Ren.le_refl ρ) (ho _ fun e => ?_)
    obtain ⟨C, F, x, _⟩ := hc.row
    rw [e, hr] at x; cases x
  · obtain ⟨h1, ms, ck, h2, h3⟩ := h.maps i p es hp hm
    exact ⟨h1, ms, ck, (ho _ fun e => by rw [e, hr] at h2; cases h2).trans h2, h3⟩
/-- All that stood, and an iterator. -/
def Fz.and (W0 : Fz) (w : World) (r : Nat) (hb : Bel W0 w) (hr : r < w.heap.size) : Fz := ⟨w, fun i => W0.z i ∨ i = r, fun i hi => by
  rcases hi with hi | rfl
  · exact Nat.lt_of_lt_of_le (W0.lt i hi) hb.size
  · exact hr⟩
theorem RelW.fz {W0 : Fz} {ρ : Ren} {S : AW} {w : World} (h : RelW W0 ρ S w) {r : Nat} {m s c} {seen : Array Nat} (hr : w.heap[r]? = some (.mapIter m s seen c)) (hb : Bel W0 w) (hlt : r < w.heap.size) : RelW (W0.and w r hb hlt) ρ S w := by
  refine ⟨Bel.refl _, h.fresh, h.objLt, h.famLt, h.genLe, h.blk, fun i p q hp hq => ?_, h.apart, h.ext, fun i p es hp hm => ?_, h.mapsApart⟩
  · have hc := h.cells i p q hp hq
    obtain ⟨C, F, x1, x2, x3, x4, x5⟩ := hc.row
    refine ⟨hc.es, C, F, x1, x2, x3, fun e => ⟨?_, (x4 e).2⟩, fun e => .inl (x5 e)⟩
    rintro (hz | hz)
    · exact (x4 e).1 hz
    · rw [hz, hr] at x1; cases x1
  · obtain ⟨h1, ms, ck, h2, h3⟩ := h.maps i p es hp hm
    refine ⟨?_, ms, ck, h2, h3⟩
    rintro (hz | hz)
    · exact h1 hz
    · rw [hz, hr] at h2; cases h2
theorem RelW.unfz {W0 : Fz} {ρ : Ren} {S : AW} {w w' : World} {r : Nat} {m s c} {seen : Array Nat} (hr : w.heap[r]? = some (.mapIter m s seen c)) (hb : Bel W0 w) (hlt : r < w.heap.size) (h : RelW (W0.and w r hb hlt) ρ S w') :
    RelW W0 ρ S w' ∧ w'.heap[r]? = w.heap[r]? := by
  have hr' : w'.heap[r]? = w.heap[r]? := h.below.block r (.inr rfl)
  refine ⟨⟨⟨h.below.os.trans hb.os, h.below.tape.trans hb.tape, h.below.output.trans hb.output, Nat.le_trans hb.size h.below.size, fun k hk => (h.below.block k (.inl hk)).trans (hb.block k hk)⟩, h.fresh, h.objLt, h.famLt, h.genLe, h.blk, fun i p q hp hq => ?_, h.apart, h.ext, fun i p es hp hm => ?_, h.mapsApart⟩, hr'⟩
  · have hc := h.cells i p q hp hq
    obtain ⟨C, F, x1, x2, x3, x4, x5⟩ := hc.row
    refine ⟨hc.es, C, F, x1, x2, x3, fun e => ⟨fun hz => (x4 e).1 (.inl hz), (x4 e).2⟩, fun e => ?_⟩
    rcases x5 e with hz | hz
    · exact hz
    · rw [hz, hr', hr] at x1; cases x1
  · obtain ⟨h1, ms, ck, h2, h3⟩ := h.maps i p es hp hm
    exact ⟨fun hz => h1 (.inl hz), ms, ck, h2, h3⟩
/-- A number for a block of which nothing is known. -/
def AW.dead (S : AW) : AW := { S with next := S.next + 1 }
theorem RelW.dead {W0 : Fz} {ρ : Ren} {S : AW} {w : World} (h : RelW W0 ρ S w) {r : Nat} (hr : r < w.heap.size) : RelW W0 (ρ.add S.next ⟨r, 0, 0, 0⟩) S.dead w := by
  have hn := h.fresh S.next (Nat.le_refl _)
  have hle := Ren.le_add (ρ := ρ) ⟨r, 0, 0, 0⟩ hn
  have hobj : S.obj S.next = none := by
    cases e : S.obj S.next with
    | none => rfl
    | some o => have := h.objLt _ o e; omega
  have hraw : ∀ i q, S.dead.raw i = some q → i ≠ S.next ∧ S.raw i = some q := fun i q e => ⟨fun hi => (by
    subst hi
    have : S.raw S.next = some q := e
    unfold AW.raw at this; rw [hobj] at this; cases this), e⟩
  have hmv : ∀ i es, S.dead.mapv i = some es → i ≠ S.next ∧ S.mapv i = some es := fun i es e => ⟨fun hi => (by
    subst hi
    have : S.mapv S.next = some es := e
    unfold AW.mapv at this; rw [hobj] at this; cases this), e⟩
  refine ⟨h.below, fun i hi => ?_, fun i o ho => Nat.lt_succ_of_lt (h.objLt i o ho), fun i q ho => Nat.lt_succ_of_lt (h.famLt i q ho), h.genLe, fun i p hp => ?_, fun i p q hp hq => ?_, fun i j p q a b hij hp hq ha hb => ?_, h.ext, fun i p es hp hm => ?_, fun i j p q es fs hij hp hq hm hm' => ?_⟩
  · have hi : S.next + 1 ≤ i := hi
    rw [Ren.add_other _ (by omega)]; exact h.fresh i (by omega)
  · by_cases hi : i = S.next
    · subst hi; rw [Ren.add_same] at hp; simp only [Option.some.injEq] at hp; subst hp; exact hr
    · rw [Ren.add_other _ hi] at hp; exact h.blk i p hp
  · obtain ⟨hi, hq⟩ := hraw i q hq
    rw [Ren.add_other _ hi] at hp
    exact (h.cells i p q hp hq).mono hle rfl
  · obtain ⟨hi, ha⟩ := hraw i a ha
    obtain ⟨hj, hb⟩ := hraw j b hb
    rw [Ren.add_other _ hi] at hp
    rw [Ren.add_other _ hj] at hq
    exact h.apart i j p q a b hij hp hq ha hb
  · obtain ⟨hi, hm⟩ := hmv i es hm
    rw [Ren.add_other _ hi] at hp
    obtain ⟨h1, ms, ck, h2, h3⟩ := h.maps i p es hp hm
    exact ⟨h1, ms, ck, h2, h3.1.mono hle, h3.2⟩
  · obtain ⟨hi, hm⟩ := hmv i es hm
    obtain ⟨hj, hm'⟩ := hmv j fs hm'
    rw [Ren.add_other _ hi] at hp
    rw [Ren.add_other _ hj] at hq
    exact h.mapsApart i j p q es fs hij hp hq hm hm'
/-- Objects are forgotten. -/
theorem RelW.forget {W0 : Fz} {ρ : Ren} {S S' : AW} {w : World} (h : RelW W0 ρ S' w) (hn : S.next = S'.next) (hobj : ∀ i o, S.obj i = some o → S'.obj i = some o) (hfam : ∀ i r, S.obj i = some (.cells r) → S'.fam r.fam = S.fam r.fam) (hbir : ∀ i es, S.obj i = some (.map es) → S'.bir i = S.bir i) : RelW W0 ρ S w := by
  have hraw : ∀ i q, S.raw i = some q → S'.raw i = some q ∧ S'.fam q.fam = S.fam q.fam := fun i q e => by
    obtain ⟨e1, e2⟩ := AW.raw_some e
    have hf := hfam i q e1
    exact ⟨AW.raw_of (hobj i _ e1) (by rw [hf]; exact e2), hf⟩
  have hmv : ∀ i es, S.mapv i = some es → S'.mapv i = some es ∧ S'.bir i = S.bir i := fun i es e => ⟨AW.mapv_of (hobj i _ (AW.mapv_some e)), hbir i es (AW.mapv_some e)⟩
  refine ⟨h.below, by rw [hn]; exact h.fresh, fun i o e => by rw [hn]; exact h.objLt i o (hobj i o e), fun i r e => by rw [hn]; exact h.famLt i r (hobj i _ e), fun i r e => by rw [← hfam i r e]; exact h.genLe i r (hobj i _ e), h.blk, fun i p q hp hq => h.cells i p q hp (hraw i q hq).1, fun i j p q r s hij hp hq hr hs ho ho' hb => ?_, fun i r hr ho => ?_, fun i p es hp hm => ?_, fun i j p q es fs hij hp hq hm hm' => h.mapsApart i j p q es fs hij hp hq (hmv i es hm).1 (hmv j fs hm').1⟩
  · have := h.apart i j p q r s hij hp hq (hraw i r hr).1 (hraw j s hs).1 ho ho' hb
    rw [(hraw i r hr).2] at this
    exact this
  · have := h.ext i r (hraw i r hr).1 ho
    rw [(hraw i r hr).2] at this
    exact this
  · obtain ⟨h1, ms, ck, h2, h3, h4⟩ := h.maps i p es hp (hmv i es hm).1
    rw [(hmv i es hm).2] at h4
    exact ⟨h1, ms, ck, h2, h3, h4⟩
/-- An operation that comes to a value. -/
theorem val_wp {P : Program} {ops : Array Oper} {Q : Exit → Act → World → Prop} {i : Nat} {o : Oper} (hi : ops[i]? = some o) (hg : o.guard = none) {a : Act} {w w' : World} {v : Value} (hrun : (execOp a.eval o).run P w = .ok (.value v) w') {K : Act → World → Prop} (hK : K (a.put o.dst v) w') : wpOp P ops Q i K a w := by
  unfold wpOp
  rw [hi]
  simp only
  have hw : Region.wanted o (yielded ops a.tmps) = true := by simp [Region.wanted, hg]
  rw [if_pos hw]
  left
  unfold Oper.wp
  rw [hrun]
  exact hK
/-- The code of a loop over a map, as far as it matters. -/
structure RngCode (P : Program) (c : Code) (it t1 t2 te b0 b1 : Nat) (el : List EOper) (er : ECode) : Prop where
  is : ∃ id1 o1 o2 id2 ops2 oe tl rest, c = .seq (.region id1 #[o1, o2] false) (.seq (.cond (.tmp t2) .skip (.exit b0)) (.block b1 (.seq (.region id2 ops2 false) rest))) ∧
    o1.op = .next (.tmp it) false ∧ o1.dst = some t1 ∧ o1.guard = none ∧ compileOper P #[o1, o2] o2 = some ⟨some t2, none, .ext 0 (.tmp t1)⟩ ∧
    ops2.toList = oe :: tl ∧ oe.op = .entry (.tmp it) ∧ oe.dst = some te ∧ oe.guard = none ∧ tl.mapM (compileOper P ops2) = some el ∧ compileCode P rest = some er
/-- What a round's body comes to. -/
def bodyR (C : Callee) (n : Nat) (el : List EOper) (er : ECode) (F : AF) (S : AW) : Out :=
  match evOps C el F S with
  | some (F1, S1) => evCode C n er F1 S1
  | none => none
theorem FRel.put {ρ : Ren} {F : AF} {a : Act} (h : FRel ρ F a) {t : Tmp} {v v' : Value} (hv : VRel ρ v v') (ht : t < F.n) : FRel ρ (F.put t v) (a.put (some t) v') := h.dst hv (by simp [AF.dst, ht])
theorem nodup_le : ∀ (N : Nat) (l : List Nat), l.Nodup → (∀ i ∈ l, i < N) → l.length ≤ N
  | 0, [], _, _ => Nat.le_refl _
  | 0, a :: l, _, h => absurd (h a (by simp)) (by omega)
  | N + 1, l, hn, h => by
    by_cases hm : N ∈ l
    · have := nodup_le N (l.erase N) (hn.erase N) (fun i hi => by
        have h1 := hn.mem_erase_iff.mp hi
        have := h i h1.2
        have := h1.1
        omega)
      rw [List.length_erase_of_mem hm] at this
      omega
    · have := nodup_le N l hn (fun i hi => by
        have := h i hi
        have : i ≠ N := fun e => hm (e ▸ hi)
        omega)
      omega
theorem rng_wp {P : Program} (hmx : P.follows .mixedOrders = true) {C : Callee} (hC : COk P C) {W0 : Fz} (n : Nat) {c : Code} {it t1 t2 te b0 b1 : Nat} {el : List EOper} {er : ECode} (hc : RngCode P c it t1 t2 te b0 b1 el er) (ht : it ≠ t1 ∧ it ≠ t2 ∧ it ≠ te ∧ t1 ≠ t2)
    {im j N : Nat} {b : List Nat × Nat} (I : List Nat → AF → AW → Prop) (n0 : Nat) (ρ0 : Ren)
    (hI : ∀ done F S, I done F S → (∃ es, S.mapv im = some es ∧ es.length = N) ∧ S.bir im = b ∧ t1 < F.n ∧ t2 < F.n ∧ te < F.n ∧ F.get it = .pointer (some ⟨j, 0, none⟩))
    (hS : ∀ done F S F', I done F S → (∀ x, x ≠ t1 → x ≠ t2 → x ≠ te → F'.get x = F.get x) → F'.n = F.n → I done F' S)
    (hB : ∀ done F S i es e, I done F S → i ∉ done → S.mapv im = some es → es[i]? = some e → F.get te = .tuple #[e.1, e.2] → ∃ F1 S1, bodyR C n el er F S = some (.normal, F1, S1) ∧ I (i :: done) F1 S1)
    {r bm since : Nat} : ∀ (k : Nat) (done : List Nat) (ρ : Ren) (S : AW) (w : World) (F : AF) (a : Act) (seen : Array Nat) (c0 : Nat) (pj pm : Place), Grow n0 S.next ρ0 ρ → RelW W0 ρ S w → FRel ρ F a → I done F S → ρ j = some pj → pj.blk = r → pj.d = 0 → ρ im = some pm → pm.blk = bm → w.heap[r]? = some (.mapIter (some bm) since seen c0) → ¬ W0.z r → since = b.2 → since ≤ c0 →
      (∀ i, i < N → seen.contains (b.1.getD i 0) = decide (i ∈ done)) → (∀ i ∈ done, i < N) → done.Nodup → N < done.length + k →
      Code.rounds P c (fun e a' w' => e = .exit b0 ∧ ∃ ρ' F' S' done', Grow n0 S'.next ρ0 ρ' ∧ FRel ρ' F' a' ∧ RelW W0 ρ' S' w' ∧ I done' F' S' ∧ (∀ i, i < N → i ∈ done') ∧ (∀ i ∈ done', i < N) ∧ done'.Nodup) k a w := by
  obtain ⟨id1, o1, o2, id2, ops2, oe, tl, rest, rfl, c1, c2, c3, c4, c5, c6, c7, c8, c9, c10⟩ := hc.is
  obtain ⟨n1, n2, n3, n4⟩ := ht
  intro k
  induction k with
  | zero =>
    intro done ρ S w F a seen c0 pj pm hgr hw hF hi hpj hr0 hd0 hpm hbm hr hz hs hsc hseen hin hnd hk
    exfalso
    have := nodup_le N done hnd hin
    omega
  | succ k ih =>
    intro done ρ S w F a seen c0 pj pm hgr hw hF hi hpj hr0 hd0 hpm hbm hr hz hs hsc hseen hin hnd hk
    obtain ⟨⟨es, hes, hN⟩, hbir, l1, l2, l3, hit⟩ := hI done F S hi
    obtain ⟨_, ms, ck, hm, hE, hB'⟩ := hw.maps im pm es hpm hes
    rw [hbir] at hB'
    rw [hbm] at hm
    have hck : ck = b.2 := hB'.clock.symm
    have hold : ∀ x ∈ ms.toList, x.born < since := fun x hx => by
      rw [hs, ← hck]
      exact hB'.lt _ (by rw [hB'.born]; exact List.mem_map.mpr ⟨x, hx, rfl⟩)
    have hev : a.eval (.tmp it) = .pointer (some ⟨r, 0, none⟩) := by
      have := hF.eval (.tmp it)
      show a.tmps.getD it undef = _
      have h2 : VRel ρ (F.get it) (a.tmps.getD it undef) := hF.slot it
      rw [hit] at h2
      obtain ⟨p, o', hp, ho, hx⟩ := h2.ptr_inv
      rw [hpj] at hp
      simp only [Option.some.injEq] at hp
      subst hp
      rw [hx, hr0]
      have : o' = 0 := by omega
      rw [this]
    rw [rounds_succ]
    refine wp_seq (wp_region ?_)
    show wpOps P #[o1, o2] _ [0, 1] a w
    rw [wpOps_cons]
    rcases run_next_at (P := P) w o1.type r bm since c0 seen ms ck hr hm hold hsc with ⟨h0, hrun⟩ | ⟨e, he, w1, hal, hrun⟩
    · -- nothing is left
      refine val_wp (i := 0) rfl c3 (v := .tuple #[.bool false]) (w' := w) (by simp [execOp, c1, hev, hrun, Result.andThen]) ?_
      rw [wpOps_cons, c2]
      have hF1 : FRel ρ (F.put t1 (.tuple #[.bool false])) (a.put (some t1) (.tuple #[.bool false])) := hF.put (.tuple _ _ rfl (fun i h1 h2 => by
        have : i = 0 := by simp at h1; omega
        subst this; exact .bool _)) l1
      refine oper_wp hC hw hF1 (ops := #[o1, o2]) (o := o2) rfl c4 (F' := (F.put t1 (.tuple #[.bool false])).put t2 (.bool false)) (S' := S) (by simp [evOper, evStep, EOp.run, AF.ev, put1, AF.dst, l2]) ?_
      intro ρ' a' w' g1 g2 g3
      show (Code.seq (.cond (.tmp t2) .skip (.exit b0)) (.block b1 (.seq (.region id2 ops2 false) rest))).wp P _ a' w'
      refine wp_seq (wp_cond_false ?_ (wp_exit ?_))
      · have := g2.slot t2
        simp only [AF.get_put, if_true] at this
        exact this.bool_inv
      · refine ⟨rfl, ρ', _, S, done, hgr.trans g1, g2, g3, hS done F S _ hi (fun x h1 h2 h3 => by simp [h1, h2]) (by simp), fun i hiN => ?_, hin, hnd⟩
        have hiM : i < ms.toList.length := by rw [← hE.1, hN]; exact hiN
        have h1 := all_seen ms seen h0 (ms.toList[i]) (List.getElem_mem hiM)
        have h2 : b.1.getD i 0 = (ms.toList[i]).born := by
          rw [hB'.born, List.getD_eq_getElem?_getD, List.getElem?_map, List.getElem?_eq_getElem hiM]; rfl
        rw [← h2, hseen i hiN] at h1
        exact of_decide_eq_true h1
    · -- one more
      obtain ⟨hem, hes0⟩ := mem_left he
      obtain ⟨i, hiM, hie⟩ := List.getElem_of_mem hem
      have hiN : i < N := by rw [← hN, hE.1]; exact hiM
      have hborn : b.1.getD i 0 = e.born := by
        rw [hB'.born, List.getD_eq_getElem?_getD, List.getElem?_map, List.getElem?_eq_getElem hiM, hie]; rfl
      have hid : i ∉ done := fun hd => by
        have := hseen i hiN
        rw [hborn, hes0, decide_eq_true hd] at this
        cases this
      have hr1 : w1.heap[r]? = some (.mapIter (some bm) since seen c0) := by rcases hal with rfl | rfl <;> exact hr
      have hw1 : RelW W0 ρ S w1 := by
        rcases hal with rfl | rfl
        · exact hw
        · exact hw.drew
      have hw2 := hw1.setr hr1 hz (.mapIter (some bm) since (seen.push e.born) ck)
      have hlt1 : r < w1.heap.size := (Array.getElem?_eq_some_iff.mp hr1).1
      have hr2 : (setBlock w1 r (.mapIter (some bm) since (seen.push e.born) ck)).heap[r]? = some (.mapIter (some bm) since (seen.push e.born) ck) := by
        show (w1.heap.setIfInBounds r _)[r]? = _
        rw [Array.getElem?_setIfInBounds, if_pos rfl, if_pos hlt1]
      have hne : bm ≠ r := fun hh => by rw [hh, hr] at hm; cases hm
      have hm2 : (setBlock w1 r (.mapIter (some bm) since (seen.push e.born) ck)).heap[bm]? = some (.map ms ck) := by
        show (w1.heap.setIfInBounds r _)[bm]? = _
        rw [Array.getElem?_setIfInBounds, if_neg (Ne.symm hne)]
        rcases hal with rfl | rfl <;> exact hm
      refine val_wp (i := 0) rfl c3 (v := .tuple #[.bool true, e.key, e.val]) (w' := setBlock w1 r (.mapIter (some bm) since (seen.push e.born) ck)) (by simp [execOp, c1, hev, hrun, Result.andThen]) ?_
      rw [wpOps_cons, c2]
      generalize hw2d : setBlock w1 r (.mapIter (some bm) since (seen.push e.born) ck) = w2 at *
      have hlt2 : r < w2.heap.size := (Array.getElem?_eq_some_iff.mp hr2).1
      obtain ⟨ee, hee⟩ : ∃ ee, es[i]? = some ee := ⟨es[i]'(by rw [hN]; exact hiN), List.getElem?_eq_getElem (by rw [hN]; exact hiN)⟩
      have hrel : VRel ρ ee.1 e.key ∧ VRel ρ ee.2 e.val := by
        have := hE.2 i (by rw [hN]; exact hiN) hiM
        rw [hie] at this
        have h2 : es[i]'(by rw [hN]; exact hiN) = ee := by
          have := List.getElem?_eq_getElem (l := es) (i := i) (by rw [hN]; exact hiN)
          rw [this] at hee
          exact Option.some.inj hee
        rw [h2] at this
        exact this
      have hF1 : FRel ρ (F.put t1 (.tuple #[.bool true, ee.1, ee.2])) (a.put (some t1) (.tuple #[.bool true, e.key, e.val])) := hF.put (.tuple _ _ rfl (fun q h1 h2 => by
        have : q = 0 ∨ q = 1 ∨ q = 2 := by simp at h1; omega
        rcases this with rfl | rfl | rfl
        · exact .bool _
        · exact hrel.1
        · exact hrel.2)) l1
      refine oper_wp hC (hw2.fz hr2 hw2.below hlt2) hF1 (ops := #[o1, o2]) (o := o2) rfl c4 (F' := (F.put t1 (.tuple #[.bool true, ee.1, ee.2])).put t2 (.bool true)) (S' := S) (by simp [evOper, evStep, EOp.run, AF.ev, put1, AF.dst, l2]) ?_
      intro ρ2 a2 w3 g1 g2 g3
      have hr3 : w3.heap[r]? = some (.mapIter (some bm) since (seen.push e.born) ck) := (g3.below.block r (.inr rfl)).trans hr2
      have hpm3 := g1.le _ _ hpm
      obtain ⟨_, ms3, ck3, hm3, hE3, hB3⟩ := g3.maps im pm es hpm3 hes
      rw [hbm] at hm3
      rw [hbir] at hB3
      have hl3 : i < ms3.toList.length := by rw [← hE3.1, hN]; exact hiN
      have hb3 : (ms3.toList[i]).born = e.born := by
        rw [← hborn, hB3.born, List.getD_eq_getElem?_getD, List.getElem?_map, List.getElem?_eq_getElem hl3]; rfl
      have hck3 : ck3 = ck := by rw [← hB3.clock, ← hB'.clock]
      have hrel3 : VRel ρ2 ee.1 (ms3.toList[i]).key ∧ VRel ρ2 ee.2 (ms3.toList[i]).val := by
        have := hE3.2 i (by rw [hN]; exact hiN) hl3
        have h2 : es[i]'(by rw [hN]; exact hiN) = ee := by
          have := List.getElem?_eq_getElem (l := es) (i := i) (by rw [hN]; exact hiN)
          rw [this] at hee
          exact Option.some.inj hee
        rw [h2] at this
        exact this
      have hnd3 : (ms3.toList.map (·.born)).Nodup := by
        rw [← hB3.born]
        exact hB3.rise.imp (fun h => Nat.ne_of_lt h)
      have hev2 : a2.eval (.tmp it) = .pointer (some ⟨r, 0, none⟩) := by
        show a2.tmps.getD it undef = _
        have h2 : VRel ρ2 (((F.put t1 (.tuple #[.bool true, ee.1, ee.2])).put t2 (.bool true)).get it) (a2.tmps.getD it undef) := g2.slot it
        rw [AF.get_put, if_neg n2, AF.get_put, if_neg n1, hit] at h2
        obtain ⟨p, o', hp, ho, hx⟩ := h2.ptr_inv
        rw [g1.le _ _ hpj] at hp
        simp only [Option.some.injEq] at hp
        subst hp
        rw [hx, hr0]
        have : o' = 0 := by omega
        rw [this]
      show (Code.seq (.cond (.tmp t2) .skip (.exit b0)) (.block b1 (.seq (.region id2 ops2 false) rest))).wp P _ a2 w3
      refine wp_seq (wp_cond_true ?_ (wp_skip ?_))
      · have := g2.slot t2
        simp only [AF.get_put, if_true] at this
        exact this.bool_inv
      refine wp_block (wp_seq (wp_region ?_))
      have hrange : List.range ops2.size = 0 :: List.range' 1 tl.length := by
        rw [List.range_eq_range', ← Array.length_toList, c5]
        rfl
      rw [hrange, wpOps_cons]
      have hget : ∀ q, ops2[q]? = (oe :: tl)[q]? := fun q => by rw [← c5, Array.getElem?_toList]
      refine val_wp (i := 0) (o := oe) (by rw [hget]; rfl) c8 (v := .tuple #[(ms3.toList[i]).key, (ms3.toList[i]).val]) (w' := w3) (by
        have := run_entry_at (P := P) w3 r bm since seen ms3 ck3 (ms3.toList[i]) (by rw [hb3, hck3]; exact hr3) hm3 (List.getElem_mem hl3) hnd3
        simp only [execOp, c6, hev2, Sem.run_bind, this, Result.andThen]
        rfl) ?_
      rw [c7]
      generalize hF2 : (F.put t1 (.tuple #[.bool true, ee.1, ee.2])).put t2 (.bool true) = F2 at *
      have hn2 : F2.n = F.n := by rw [← hF2]; simp
      have hF3 : FRel ρ2 (F2.put te (.tuple #[ee.1, ee.2])) (a2.put (some te) (.tuple #[(ms3.toList[i]).key, (ms3.toList[i]).val])) := g2.put (.tuple _ _ rfl (fun q h1 h2 => by
        have : q = 0 ∨ q = 1 := by simp at h1; omega
        rcases this with rfl | rfl
        · exact hrel3.1
        · exact hrel3.2)) (by rw [hn2]; exact l3)
      have hi3 : I done (F2.put te (.tuple #[ee.1, ee.2])) S := hS done F S _ hi (fun x h1 h2 h3 => by rw [← hF2]; simp [h1, h2, h3]) (by simp [hn2])
      obtain ⟨F4, S4, hbody, hi4⟩ := hB done _ S i es ee hi3 hid hes hee (by simp [hn2, l3])
      unfold bodyR at hbody
      cases hop : evOps C el (F2.put te (.tuple #[ee.1, ee.2])) S with
      | none => rw [hop] at hbody; cases hbody
      | some fs =>
        obtain ⟨F5, S5⟩ := fs
        rw [hop] at hbody
        refine ops_wp hC tl el 1 ρ2 S w3 _ _ F5 S5 (fun q => by rw [hget, Nat.add_comm]; rfl) c9 g3 hF3 hop ?_
        intro ρ5 a5 w5 k1 k2 k3
        refine wp_mono (code_ok hmx hC n rest er c10 ρ5 S5 w5 F5 a5 _ k3 k2 hbody) ?_
        rintro e' a' w' ⟨rfl, ρ', k4, k5, k6⟩
        obtain ⟨k7, k8⟩ := RelW.unfz hr2 hw2.below hlt2 k6
        exact ih (i :: done) ρ' S4 w' F4 a' (seen.push e.born) ck pj pm (((hgr.trans g1).trans k1).trans k4) k7 k5 hi4 (k4.le _ _ (k1.le _ _ (g1.le _ _ hpj))) hr0 hd0 (k4.le _ _ (k1.le _ _ (g1.le _ _ hpm))) hbm (k8.trans hr2) hz hs (by omega) (fun q hq => by
          have := hseen q hq
          rw [Array.contains_push, this]
          by_cases hqi : q = i
          · subst hqi; rw [hborn]; simp
          · have : b.1.getD q 0 ≠ e.born := fun hh => hqi (by
              have hq3 : q < ms.toList.length := by rw [← hE.1, hN]; exact hq
              have h1 := List.pairwise_iff_getElem.mp hB'.rise
              have hlb : b.1.length = ms.toList.length := by rw [hB'.born, List.length_map]
              rw [← hborn, List.getD_eq_getElem?_getD, List.getD_eq_getElem?_getD, List.getElem?_eq_getElem (hlb ▸ hq3), List.getElem?_eq_getElem (hlb ▸ hiM)] at hh
              have hh : b.1[q]'(hlb ▸ hq3) = b.1[i]'(hlb ▸ hiM) := hh
              rcases Nat.lt_trichotomy q i with hl | hl | hl
              · have := h1 q i (hlb ▸ hq3) (hlb ▸ hiM) hl
                omega
              · exact hl
              · have := h1 i q (hlb ▸ hiM) (hlb ▸ hq3) hl
                omega)
            have hx : (b.1.getD q 0 == e.born) = false := by simpa using this
            have hy : decide (q ∈ i :: done) = decide (q ∈ done) := by simp [hqi]
            rw [hx, hy, Bool.or_false]) (fun q hq => by
          rcases List.mem_cons.mp hq with rfl | hq
          · exact hiN
          · exact hin q hq) (List.nodup_cons.mpr ⟨hid, hnd⟩) (by simp only [List.length_cons]; omega)
end Go.Proofs.Ythclmjelknibhaa.Ev
/- Functions that have one loop over a map. -/
namespace Go.Proofs.Ythclmjelknibhaa.Ev
open Go Go.RowKit
open Go.ChangeMaps (setBlock)
set_option linter.unusedVariables false
set_option linter.unusedSimpArgs false
set_option linter.unusedSectionVars false

structure RK where
  pre : List ECode
  el0 : List EOper
  m : Operand
  it : Nat
  t1 : Nat
  t2 : Nat
  te : Nat
  b0 : Nat
  b1 : Nat
  el : List EOper
  er : ECode
  z : ECode
def asRange (P : Program) (o : Oper) : Option (Operand × Nat) :=
  match o.op, o.dst, o.guard with
  | .range ty m, some d, none => match P.underlying ty with
    | some (.map _ _) => some (m, d)
    | _ => none
  | _, _, _ => none
theorem asRange_some {P : Program} {o : Oper} {m : Operand} {d : Nat} (h : asRange P o = some (m, d)) : ∃ ty k e, o.op = .range ty m ∧ o.dst = some d ∧ o.guard = none ∧ P.underlying ty = some (.map k e) := by
  unfold asRange at h
  split at h
  · rename_i ty m' d' h1 h2 h3
    split at h
    · rename_i k e h4
      simp only [Option.some.injEq, Prod.mk.injEq] at h
      obtain ⟨rfl, rfl⟩ := h
      exact ⟨ty, k, e, h1, h2, h3, h4⟩
    · cases h
  · cases h
def asNext (o : Oper) : Option (Nat × Nat) :=
  match o.op, o.dst, o.guard with
  | .next (.tmp it) false, some d, none => some (it, d)
  | _, _, _ => none
theorem asNext_some {o : Oper} {it d : Nat} (h : asNext o = some (it, d)) : o.op = .next (.tmp it) false ∧ o.dst = some d ∧ o.guard = none := by
  unfold asNext at h
  split at h
  · rename_i h1 h2 h3
    simp only [Option.some.injEq, Prod.mk.injEq] at h
    obtain ⟨rfl, rfl⟩ := h
    exact ⟨h1, h2, h3⟩
  · cases h
def asEntry (o : Oper) : Option (Nat × Nat) :=
  match o.op, o.dst, o.guard with
  | .entry (.tmp it), some d, none => some (it, d)
  | _, _, _ => none
theorem asEntry_some {o : Oper} {it d : Nat} (h : asEntry o = some (it, d)) : o.op = .entry (.tmp it) ∧ o.dst = some d ∧ o.guard = none := by
  unfold asEntry at h
  split at h
  · rename_i h1 h2 h3
    simp only [Option.some.injEq, Prod.mk.injEq] at h
    obtain ⟨rfl, rfl⟩ := h
    exact ⟨h1, h2, h3⟩
  · cases h
def asExt (P : Program) (ops : Array Oper) (o : Oper) : Option (Nat × Nat) :=
  match compileOper P ops o with
  | some ⟨some t2, none, .ext 0 (.tmp t1)⟩ => some (t1, t2)
  | _ => none
theorem asExt_some {P : Program} {ops : Array Oper} {o : Oper} {t1 t2 : Nat} (h : asExt P ops o = some (t1, t2)) : compileOper P ops o = some ⟨some t2, none, .ext 0 (.tmp t1)⟩ := by
  unfold asExt at h
  split at h
  · rename_i h1
    simp only [Option.some.injEq, Prod.mk.injEq] at h
    obtain ⟨rfl, rfl⟩ := h
    exact h1
  · cases h
def list2 {α : Type} : List α → Option (α × α)
  | [a, b] => some (a, b)
  | _ => none
def rngB (P : Program) (b0 b1 : Nat) (ops0 ops1 ops2 : Array Oper) (t2 b0' : Nat) (rest z : Code) : Option RK :=
  match ops0.toList.reverse, list2 ops1.toList, ops2.toList with
  | og :: l0, some (o1, o2), oe :: tl =>
    match asRange P og, asNext o1, asExt P ops1 o2, asEntry oe with
    | some (m, it), some (it1, t1), some (t1', t2'), some (it2, te) =>
      match l0.reverse.mapM (compileOper P ops0), tl.mapM (compileOper P ops2), compileCode P rest, compileCode P z with
      | some el0, some el, some er, some ez => if it = it1 ∧ it = it2 ∧ t1 = t1' ∧ t2 = t2' ∧ b0 = b0' ∧ (it ≠ t1 ∧ it ≠ t2 ∧ it ≠ te ∧ t1 ≠ t2) then some ⟨[], el0, m, it, t1, t2, te, b0, b1, el, er, ez⟩ else none
      | _, _, _, _ => none
    | _, _, _, _ => none
  | _, _, _ => none
def rngL (P : Program) (c z : Code) : Option RK :=
  match c with
  | .seq (.region _ ops0 false) (.block b0 (.loop (.seq (.region _ ops1 false) (.seq (.cond (.tmp t2) .skip (.exit b0')) (.block b1 (.seq (.region _ ops2 false) rest)))))) => rngB P b0 b1 ops0 ops1 ops2 t2 b0' rest z
  | _ => none
def rngC (P : Program) : Code → Option RK
  | .seq a b => match rngL P a b with
    | some k => some k
    | none => match compileCode P a, rngC P b with
      | some ea, some k => some { k with pre := ea :: k.pre }
      | _, _ => none
  | _ => none
theorem rngL_inv {P : Program} {c z : Code} {k : RK} (h : rngL P c z = some k) : k.pre = [] ∧ compileCode P z = some k.z ∧ (k.it ≠ k.t1 ∧ k.it ≠ k.t2 ∧ k.it ≠ k.te ∧ k.t1 ≠ k.t2) ∧
    ∃ id0 ops0 c' l0 og ty kt et, c = .seq (.region id0 ops0 false) (.block k.b0 (.loop c')) ∧ ops0.toList = l0 ++ [og] ∧ og.op = .range ty k.m ∧ og.dst = some k.it ∧ og.guard = none ∧ P.underlying ty = some (.map kt et) ∧
      l0.mapM (compileOper P ops0) = some k.el0 ∧ RngCode P c' k.it k.t1 k.t2 k.te k.b0 k.b1 k.el k.er := by
  unfold rngL at h
  split at h
  · rename_i id0 ops0 b0 id1 ops1 t2 b0' b1 id2 ops2 rest
    unfold rngB at h
    split at h
    · rename_i og l0 o1 o2 oe tl e0 e1 e2
      split at h
      · rename_i m it it1 t1 t1' t2' it2 te a1 a2 a3 a4
        split at h
        · rename_i el0 el er ez c1 c2 c3 c4
          split at h
          · rename_i hq
            obtain ⟨rfl, rfl, rfl, rfl, rfl, hn⟩ := hq
            simp only [Option.some.injEq] at h
            subst h
            obtain ⟨ty, kt, et, r1, r2, r3, r4⟩ := asRange_some a1
            obtain ⟨n1, n2, n3⟩ := asNext_some a2
            have x1 := asExt_some a3
            obtain ⟨y1, y2, y3⟩ := asEntry_some a4
            have h1 : ops1 = #[o1, o2] := by
              have : ops1.toList = [o1, o2] := by
                revert e1
                generalize ops1.toList = l
                intro e1
                unfold list2 at e1
                split at e1
                · simp only [Option.some.injEq, Prod.mk.injEq] at e1
                  obtain ⟨rfl, rfl⟩ := e1; rfl
                · cases e1
              exact Array.toList_inj.mp this
            subst h1
            refine ⟨rfl, c4, hn, id0, ops0, _, l0.reverse, og, ty, kt, et, rfl, ?_, r1, r2, r3, r4, c1, ⟨id1, o1, o2, id2, ops2, oe, tl, rest, rfl, n1, n2, n3, x1, e2, y1, y2, y3, c2, c3⟩⟩
            rw [← List.reverse_reverse ops0.toList, e0, List.reverse_cons]
          · cases h
        · cases h
      · cases h
    · cases h
  · cases h

/-- Operations in the text's order, and others behind them. -/
theorem ops_wp2 {P : Program} {C : Callee} (hC : COk P C) {W0 : Fz} {ops : Array Oper} {Q : Exit → Act → World → Prop} {is : List Nat} : ∀ (l : List Oper) (el : List EOper) (k : Nat) (ρ : Ren) (S : AW) (w : World) (F : AF) (a : Act) (F' : AF) (S' : AW),
    (∀ (j : Nat) (o : Oper), l[j]? = some o → ops[k + j]? = some o) → l.mapM (compileOper P ops) = some el → RelW W0 ρ S w → FRel ρ F a → evOps C el F S = some (F', S') →
    (∀ ρ' a' w', Grow S.next S'.next ρ ρ' → FRel ρ' F' a' → RelW W0 ρ' S' w' → wpOps P ops Q is a' w') → wpOps P ops Q (List.range' k l.length ++ is) a w := by
  intro l
  induction l with
  | nil =>
    intro el k ρ S w F a F' S' hl hm h hF he hQ
    simp only [List.mapM_nil, Option.pure_def, Option.some.injEq] at hm
    subst hm
    simp only [evOps, Option.some.injEq, Prod.mk.injEq] at he
    obtain ⟨rfl, rfl⟩ := he
    exact hQ ρ a w (Grow.refl _ ρ) hF h
  | cons o l ih =>
    intro el k ρ S w F a F' S' hl hm h hF he hQ
    simp only [List.mapM_cons, Option.bind_eq_bind, Option.pure_def] at hm
    obtain ⟨eo, ho, hm⟩ := Option.bind_eq_some_iff.mp hm
    obtain ⟨el', hel, hm⟩ := Option.bind_eq_some_iff.mp hm
    simp only [Option.some.injEq] at hm
    subst hm
    simp only [evOps] at he
    split at he
    · rename_i F1 S1 h1
      rw [List.length_cons, List.range'_succ, List.cons_append, wpOps_cons]
      refine oper_wp hC h hF (ops := ops) (o := o) (hl 0 o rfl) ho h1 ?_
      intro ρ1 a1 w1 g1 g2 g3
      refine ih el' (k + 1) ρ1 S1 w1 F1 a1 F' S' (fun j o' hj => ?_) hel g3 g2 he (fun ρ' a' w' r1 r2 r3 => hQ ρ' a' w' (g1.trans r1) r2 r3)
      have := hl (j + 1) o' (by simpa using hj)
      rw [show k + 1 + j = k + (j + 1) from by omega]
      exact this
    · cases he

/-- What is asked of a loop. -/
structure RSpec (C : Callee) (n : Nat) (k : RK) (F2 : AF) (S2 : AW) (N im : Nat) (b : List Nat × Nat) (I : List Nat → AF → AW → Prop) : Prop where
  ev : F2.ev k.m = .map (some im)
  itn : k.it < F2.n
  start : I [] (F2.put k.it (.pointer (some ⟨S2.next, 0, none⟩))) S2.dead
  inv : ∀ done F S, I done F S → (∃ es, S.mapv im = some es ∧ es.length = N) ∧ S.bir im = b ∧ k.t1 < F.n ∧ k.t2 < F.n ∧ k.te < F.n ∧ F.get k.it = .pointer (some ⟨S2.next, 0, none⟩)
  slot : ∀ done F S F', I done F S → (∀ x, x ≠ k.t1 → x ≠ k.t2 → x ≠ k.te → F'.get x = F.get x) → F'.n = F.n → I done F' S
  body : ∀ done F S i es e, I done F S → i ∉ done → S.mapv im = some es → es[i]? = some e → F.get k.te = .tuple #[e.1, e.2] → ∃ F1 S1, bodyR C n k.el k.er F S = some (.normal, F1, S1) ∧ I (i :: done) F1 S1

theorem rngL_wp {P : Program} (hmx : P.follows .mixedOrders = true) {C : Callee} (hC : COk P C) {W0 : Fz} (n : Nat) {c z : Code} {k : RK} (hk : rngL P c z = some k) {ρ : Ren} {S : AW} {w : World} {F : AF} {a : Act} (hw : RelW W0 ρ S w) (hF : FRel ρ F a)
    {F2 : AF} {S2 : AW} (hev : evOps C k.el0 F S = some (F2, S2)) {N im : Nat} {b : List Nat × Nat} {I : List Nat → AF → AW → Prop} (hs : RSpec C n k F2 S2 N im b I) {Q : Exit → Act → World → Prop}
    (hQ : ∀ ρ' F' S' done a' w', Grow S.next S'.next ρ ρ' → FRel ρ' F' a' → RelW W0 ρ' S' w' → I done F' S' → (∀ i, i < N → i ∈ done) → (∀ i ∈ done, i < N) → done.Nodup → z.wp P Q a' w') : (Code.seq c z).wp P Q a w := by
  obtain ⟨_, hz, hne, id0, ops0, c', l0, og, ty, kt, et, rfl, h1, h2, h3, h4, h5, h6, h7⟩ := rngL_inv hk
  refine wp_seq (wp_seq (wp_region ?_))
  have hrange : List.range ops0.size = List.range' 0 l0.length ++ [l0.length] := by
    rw [List.range_eq_range', ← Array.length_toList, h1, List.length_append]
    rw [show l0.length + [og].length = l0.length + 1 from rfl, List.range'_1_concat, Nat.zero_add]
  have hget : ∀ q, ops0[q]? = (l0 ++ [og])[q]? := fun q => by rw [← h1, Array.getElem?_toList]
  rw [hrange]
  refine ops_wp2 hC l0 k.el0 0 ρ S w F a F2 S2 (fun j o hj => ?_) h6 hw hF hev ?_
  · rw [Nat.zero_add, hget, List.getElem?_append_left (List.getElem?_eq_some_iff.mp hj).1, hj]
  intro ρ2 a2 w2 g1 g2 g3
  rw [wpOps_cons]
  obtain ⟨⟨es, hes, hN⟩, hbir, l1, l2, l3, _⟩ := hs.inv _ _ _ hs.start
  have hes : S2.mapv im = some es := hes
  have hbir : S2.bir im = b := hbir
  have hmv := g2.eval k.m
  rw [hs.ev] at hmv
  obtain ⟨pm, hpm, hmv⟩ := hmv.map_inv
  obtain ⟨hpz, ms, ck, hm, hE, hB⟩ := g3.maps im pm es hpm hes
  rw [hbir] at hB
  refine val_wp (i := l0.length) (o := og) (by rw [hget, List.getElem?_append_right (Nat.le_refl _), Nat.sub_self]; rfl) h4 (v := .pointer (some ⟨w2.heap.size, 0, none⟩)) (w' := w2.alloc (.mapIter (some pm.blk) ck #[] ck)) (by
    have := run_range_map (P := P) w2 ty kt et pm.blk ms ck h5 hm
    simp only [execOp, h2, hmv, Sem.run_bind, this, Result.andThen]
    rfl) ?_
  rw [h3]
  have g4 := g3.alloc (.mapIter (some pm.blk) ck #[] ck)
  have hr := heap_alloc_new w2 (.mapIter (some pm.blk) ck #[] ck)
  generalize hw3 : w2.alloc (.mapIter (some pm.blk) ck #[] ck) = w3 at *
  have hlt : w2.heap.size < w3.heap.size := (Array.getElem?_eq_some_iff.mp hr).1
  have hz0 : ¬ W0.z w2.heap.size := fun hzz => by
    have := W0.lt _ hzz
    have := g3.below.size
    omega
  have hn2 := g3.fresh S2.next (Nat.le_refl _)
  have hgr : Grow S2.next S2.dead.next ρ2 (ρ2.add S2.next ⟨w2.heap.size, 0, 0, 0⟩) := Grow.add _ hn2
  have g5 := g4.dead hlt
  have hj : (ρ2.add S2.next ⟨w2.heap.size, 0, 0, 0⟩) S2.next = some ⟨w2.heap.size, 0, 0, 0⟩ := Ren.add_same _ _ _
  have g6 : FRel (ρ2.add S2.next ⟨w2.heap.size, 0, 0, 0⟩) (F2.put k.it (.pointer (some ⟨S2.next, 0, none⟩))) (a2.put (some k.it) (.pointer (some ⟨w2.heap.size, 0, none⟩))) :=
    (g2.mono hgr.le).put (VRel.ptr (o := 0) hj rfl) hs.itn
  show (Code.block k.b0 (.loop c')).wp P _ _ _
  refine wp_block (wp_mono (wp_loop_rounds (N + 1) (rng_wp hmx hC n h7 hne (im := im) (j := S2.next) (N := N) (b := b) I S.next ρ hs.inv hs.slot hs.body (N + 1) [] _ S2.dead w3 _ _ #[] ck ⟨w2.heap.size, 0, 0, 0⟩ pm (g1.trans hgr) g5 g6 hs.start hj rfl rfl (hgr.le _ _ hpm) rfl hr hz0 hB.clock.symm (Nat.le_refl _) (fun i hi => by simp) (fun i hi => by simp at hi) List.nodup_nil (by simp))) ?_)
  rintro e a' w' ⟨rfl, ρ', F', S', done, q1, q2, q3, q4, q5, q6, q7⟩
  show (if k.b0 = k.b0 then _ else _)
  rw [if_pos rfl]
  exact hQ ρ' F' S' done a' w' q1 q2 q3 q4 q5 q6 q7

def goPre (C : Callee) (n : Nat) : List ECode → AF → AW → Out
  | [], F, S => some (.normal, F, S)
  | e :: l, F, S => match evCode C n e F S with
    | some (.normal, F', S') => goPre C n l F' S'
    | r => r
/-- What a function with a loop over a map comes to, whichever entry comes next. -/
def RunR (C : Callee) (n : Nat) (k : RK) (F : AF) (S : AW) (R : EX × AF × AW → Prop) : Prop :=
  match goPre C n k.pre F S with
  | some (.normal, F1, S1) => ∃ F2 S2 N im b I, evOps C k.el0 F1 S1 = some (F2, S2) ∧ RSpec C n k F2 S2 N im b I ∧
      ∀ done F S', I done F S' → (∀ i, i < N → i ∈ done) → (∀ i ∈ done, i < N) → done.Nodup → ∃ r, evCode C n k.z F S' = some r ∧ R r
  | some r => R r
  | none => False
def PostR (W0 : Fz) (n : Nat) (ρ : Ren) (R : EX × AF × AW → Prop) : Exit → Act → World → Prop := fun e a' w' => ∃ r, R r ∧ e = r.1.to ∧ ∃ ρ', Grow n r.2.2.next ρ ρ' ∧ FRel ρ' r.2.1 a' ∧ RelW W0 ρ' r.2.2 w'
theorem rngC_wp {P : Program} (hmx : P.follows .mixedOrders = true) {C : Callee} (hC : COk P C) {W0 : Fz} (n : Nat) {R : EX × AF × AW → Prop} {n0 : Nat} {ρ0 : Ren} : ∀ (c : Code) (k : RK), rngC P c = some k → ∀ (ρ : Ren) (S : AW) (w : World) (F : AF) (a : Act), Grow n0 S.next ρ0 ρ → RelW W0 ρ S w → FRel ρ F a →
    RunR C n k F S R → c.wp P (PostR W0 n0 ρ0 R) a w := by
  intro c
  induction c with
  | seq x y _ ihy =>
    intro k hk ρ S w F a hg hw hF hR
    simp only [rngC] at hk
    split at hk
    · rename_i k' hk'
      simp only [Option.some.injEq] at hk
      subst hk
      obtain ⟨hp, hz, _⟩ := rngL_inv hk'
      unfold RunR at hR
      rw [hp] at hR
      simp only [goPre] at hR
      obtain ⟨F2, S2, N, im, b, I, h1, h2, h3⟩ := hR
      refine rngL_wp hmx hC n hk' hw hF h1 h2 ?_
      intro ρ' F' S' done a' w' q1 q2 q3 q4 q5 q6 q7
      obtain ⟨r, r1, r2⟩ := h3 done F' S' q4 q5 q6 q7
      refine wp_mono (code_ok hmx hC n y k'.z hz ρ' S' w' F' a' r q3 q2 r1) ?_
      rintro e a2 w2 ⟨he, ρ2, k1, k2, k3⟩
      exact ⟨r, r2, he, ρ2, (hg.trans q1).trans k1, k2, k3⟩
    · split at hk
      · rename_i ea k' hea hk'
        simp only [Option.some.injEq] at hk
        subst hk
        unfold RunR at hR
        simp only [goPre] at hR
        cases h1 : evCode C n ea F S with
        | none => rw [h1] at hR; exact hR.elim
        | some r =>
          rw [h1] at hR
          refine wp_seq (wp_mono (code_ok hmx hC n x ea hea ρ S w F a r hw hF h1) ?_)
          rintro e a2 w2 ⟨rfl, ρ2, k1, k2, k3⟩
          obtain ⟨x', F', S'⟩ := r
          cases x' with
          | normal =>
            refine ihy k' hk' ρ2 S' w2 F' a2 (hg.trans k1) k3 k2 ?_
            unfold RunR
            simp only at hR
            split at hR
            · rename_i F1 S1 hgo
              obtain ⟨F2, S2, N, im, b, I, h1, h2, h3⟩ := hR
              exact ⟨F2, S2, N, im, b, I, h1, ⟨h2.ev, h2.itn, h2.start, h2.inv, h2.slot, h2.body⟩, h3⟩
            · rename_i r' hne hgo
              obtain ⟨x'', F'', S''⟩ := r'
              cases x'' with
              | normal => exact (hne _ _ rfl).elim
              | exit id => exact hR
              | ret => exact hR
            · exact hR.elim
          | exit id => exact ⟨_, hR, rfl, ρ2, hg.trans k1, k2, k3⟩
          | ret => exact ⟨_, hR, rfl, ρ2, hg.trans k1, k2, k3⟩
      · cases hk
  | _ =>
    intro k hk ρ S w F a hg hw hF hR
    simp [rngC] at hk

structure RF where
  ntmps : Nat
  k : RK
  results : List (Nat × Option (Option Nat))
def rngF (P : Program) (f : FuncId) : Option RF :=
  match P.funcs[f]? with
  | some fn => match fn.body with
    | some c => match rngC P c, fn.results.toList.mapM (compileR P) with
      | some k, some rs => if fn.name == "runtime.NumGoroutine" then none else some ⟨fn.ntmps, k, rs⟩
      | _, _ => none
    | none => none
  | none => none
/-- What is known of S' is known of S'': nothing else is asked. -/
structure Fg (S' S'' : AW) : Prop where
  next : S'.next = S''.next
  obj : ∀ i o, S'.obj i = some o → S''.obj i = some o
  fam : ∀ i r, S'.obj i = some (.cells r) → S''.fam r.fam = S'.fam r.fam
  bir : ∀ i es, S'.obj i = some (.map es) → S''.bir i = S'.bir i
theorem Fg.refl (S : AW) : Fg S S := ⟨rfl, fun _ _ h => h, fun _ _ _ => rfl, fun _ _ _ => rfl⟩

theorem rngF_ok {P : Program} (hmx : P.follows .mixedOrders = true) {C : Callee} (hC : COk P C) (n : Nat) {f : FuncId} {rf : RF} (hc : rngF P f = some rf) {W0 : Fz} {ρ : Ren} {S : AW} {w : World} (h : RelW W0 ρ S w)
    {args : List Value} {args' : Array Value} (ha : ARel ρ args.toArray args') {v : Value} {S' : AW} (he : RunR C n rf.k (AF.enter rf.ntmps args) S fun r => (∀ id, r.1 ≠ .exit id) ∧ ∃ vs, resV r.2.1 r.2.2 rf.results = some vs ∧ v = tupV vs ∧ Fg S' r.2.2) :
    (callFunc f args').run P w = .ok (.enter f args') w ∧ Calls P f args' w fun e w' => ∃ ρ' v', Grow S.next S'.next ρ ρ' ∧ e = .returned v' ∧ VRel ρ' v v' ∧ RelW W0 ρ' S' w' := by
  unfold rngF at hc
  split at hc
  · rename_i fn hfn
    split at hc
    · rename_i c hb
      split at hc
      · rename_i k rs hec hrs
        split at hc
        · cases hc
        · rename_i hname
          simp only [Option.some.injEq] at hc
          subst hc
          constructor
          · simp only [callFunc, Sem.run_bind, run_program, Result.andThen_ok, hfn, hb, Option.isNone_some, Bool.false_eq_true, if_false, hname, Sem.run_ite, Sem.run_pure]
          · refine calls_of_wp hfn hb ?_
            have hlen : args.length = args'.size := by simpa using ha.1
            have hF : FRel ρ (AF.enter fn.ntmps args) { tmps := args' ++ Array.replicate (fn.ntmps - args'.size) undef, defers := [] } := by
              refine ⟨by simp [AF.enter, hlen], fun t => ?_, rfl⟩
              rw [enter_get]
              simp only [Array.getD_eq_getD_getElem?]
              by_cases ht : t < args.length
              · have h1 : t < args'.size := by omega
                rw [List.getElem?_eq_getElem ht, Array.getElem?_append_left h1, Array.getElem?_eq_getElem h1]
                exact ha.2 t (by simpa using ht) h1
              · rw [List.getElem?_eq_none (by omega), Array.getElem?_append_right (by omega), Array.getElem?_replicate]
                split <;> exact .undef
            refine wp_mono (rngC_wp hmx hC n c k hec ρ S w _ _ (Grow.refl _ ρ) h hF he) ?_
            rintro e a' w' ⟨⟨x, F', S1⟩, ⟨hx, vs, hvs, rfl, hfg⟩, rfl, ρ', q1, q2, q3⟩
            have fin : a'.defers = [] ∧ ∃ v', (results fn a'.tmps).run P w' = .ok v' w' ∧ ∃ ρ' v'', Grow S.next S'.next ρ ρ' ∧ Ending.returned v' = .returned v'' ∧ VRel ρ' (tupV vs) v'' ∧ RelW W0 ρ' S' w' := by
              refine ⟨q2.defers, ?_⟩
              obtain ⟨vs', k1, k2⟩ := res_ok q3 q2 fn.results.toList rs vs hrs hvs
              have hmap : (fn.results.mapM (resOne a'.tmps)).run P w' = .ok vs'.toArray w' := by
                rw [Array.mapM_eq_mapM_toList, Sem.run_map, k1]
                rfl
              have hsz : vs.length = vs'.length := by have := k2.1; simpa using this
              refine ⟨if h : vs'.toArray.size = 1 then vs'.toArray[0] else .tuple vs'.toArray, ?_, ρ', _, ?_, rfl, ?_, q3.forget hfg.next hfg.obj hfg.fam hfg.bir⟩
              · rw [results_eq, Sem.run_bind, hmap]
                rfl
              · rw [hfg.next]; exact q1
              · unfold tupV
                split
                · rename_i v1
                  have h1 : vs'.length = 1 := by rw [← hsz]; rfl
                  rw [dif_pos (by simpa using h1)]
                  have := k2.2 0 (by simp) (by simp [h1])
                  simpa using this
                · rename_i hne
                  have h1 : ¬ vs'.length = 1 := by
                    intro h1
                    obtain ⟨x, hx⟩ := List.length_eq_one_iff.mp (hsz.trans h1)
                    exact hne x hx
                  rw [dif_neg (by simpa using h1)]
                  exact .tuple' k2
            cases x with
            | normal => exact fin
            | ret => exact fin
            | exit id => exact absurd rfl (hx id)
      · cases hc
    · cases hc
  · cases hc
end Go.Proofs.Ythclmjelknibhaa.Ev
/- Functions with a loop over a map: how much room is left. -/
namespace Go.Proofs.Ythclmjelknibhaa.Ev
open Go Go.RowKit
set_option linter.unusedVariables false
set_option linter.unusedSimpArgs false
def r23 : RF :=
 ⟨27, ⟨[.ops [⟨(some 2), none, .mov (.const (.int .i64 0))⟩],
   .seq (.ops [⟨(some 6), none, .mov (.tmp 0)⟩,
     ⟨(some 7), none, .eqN 0 false (.tmp 6) (.const (.pointer none))⟩])
   (.cond (.tmp 7) (.seq (.ops [⟨(some 2), none, .mov (.const (.int .i64 0))⟩])
    (.ret))
    (.skip)),
   .ops [⟨(some 8), none, .mov (.tmp 0)⟩,
     ⟨(some 9), none, .nilc (.tmp 8)⟩,
     ⟨(some 10), none, .fad 0 (.tmp 9)⟩,
     ⟨(some 11), none, .ld none (.tmp 10)⟩,
     ⟨(some 3), none, .mov (.tmp 11)⟩]],
  [⟨(some 12), none, .mov (.tmp 0)⟩,
    ⟨(some 13), none, .nilc (.tmp 12)⟩,
    ⟨(some 14), none, .fad 1 (.tmp 13)⟩,
    ⟨(some 15), none, .ld none (.tmp 14)⟩], .tmp 15, 16, 17, 18, 19, 0, 1,
  [⟨(some 20), none, .ext 1 (.tmp 19)⟩,
    ⟨(some 5), none, .new 81 2 [.slice none 0 0, .int .i64 0]⟩,
    ⟨none, none, .st 2 (.tmp 5) (.tmp 20)⟩],
  .ops [⟨(some 21), none, .mov (.tmp 3)⟩,
     ⟨(some 22), none, .fad 0 (.tmp 5)⟩,
     ⟨(some 23), none, .ld none (.tmp 22)⟩,
     ⟨(some 24), none, .len false (.tmp 23)⟩,
     ⟨(some 25), none, .bin .sub (.tmp 21) (.tmp 24)⟩,
     ⟨(some 3), none, .mov (.tmp 25)⟩],
  .seq (.ops [⟨(some 26), none, .mov (.tmp 3)⟩,
     ⟨(some 2), none, .mov (.tmp 26)⟩])
   (.ret)⟩, [(2, none)]⟩
def r22 : RF :=
 ⟨32, ⟨[.seq (.ops [⟨(some 6), none, .mov (.tmp 0)⟩,
     ⟨(some 7), none, .eqN 0 false (.tmp 6) (.const (.pointer none))⟩])
   (.cond (.tmp 7) (.ret)
    (.skip))],
  [⟨(some 8), none, .mov (.tmp 0)⟩,
    ⟨(some 9), none, .nilc (.tmp 8)⟩,
    ⟨(some 10), none, .fad 1 (.tmp 9)⟩,
    ⟨(some 11), none, .ld none (.tmp 10)⟩], .tmp 11, 12, 13, 14, 15, 0, 1,
  [⟨(some 16), none, .ext 0 (.tmp 15)⟩,
    ⟨(some 17), none, .ext 1 (.tmp 15)⟩,
    ⟨(some 5), none, .new 81 2 [.slice none 0 0, .int .i64 0]⟩,
    ⟨(some 4), none, .mov (.tmp 16)⟩,
    ⟨none, none, .st 2 (.tmp 5) (.tmp 17)⟩],
  .dra [⟨⟨(some 18), none, .mov (.tmp 0)⟩, [], 0, 1⟩,
     ⟨⟨(some 19), none, .nilc (.tmp 18)⟩, [0], 0, 1⟩,
     ⟨⟨(some 20), none, .fad 1 (.tmp 19)⟩, [1], 0, 1⟩,
     ⟨⟨(some 21), none, .ld none (.tmp 20)⟩, [2], 0, 1⟩,
     ⟨⟨(some 22), none, .mov (.tmp 4)⟩, [], 0, 1⟩,
     ⟨⟨(some 23), none, .ld (some 2) (.tmp 5)⟩, [], 0, 0⟩,
     ⟨⟨(some 24), none, .mov (.tmp 1)⟩, [], 0, 0⟩,
     ⟨⟨(some 25), none, .call 59 [.tmp 23, .tmp 24]⟩, [5, 6], 0, 1⟩,
     ⟨⟨none, none, .mup (.one (.str)) (.tmp 21) (.tmp 22) (.tmp 25)⟩, [3, 4, 7, 7, 0, 1, 2, 3, 4, 5, 6, 7], 1, 2⟩] [0, 1, 2, 3, 4, 5, 6, 7, 8] 2,
  .ops [⟨(some 26), none, .mov (.tmp 0)⟩,
     ⟨(some 27), none, .mov (.tmp 0)⟩,
     ⟨(some 28), none, .nilc (.tmp 26)⟩,
     ⟨(some 29), none, .fad 5 (.tmp 28)⟩,
     ⟨none, none, .st 1 (.tmp 29) (.const (.bool true))⟩,
     ⟨(some 30), none, .nilc (.tmp 27)⟩,
     ⟨(some 31), none, .fad 2 (.tmp 30)⟩,
     ⟨none, none, .st 1 (.tmp 31) (.const (.bool false))⟩]⟩, []⟩
def r19 : RF :=
 ⟨30, ⟨[.seq (.ops [⟨(some 4), none, .mov (.tmp 0)⟩,
     ⟨(some 5), none, .eqN 0 false (.tmp 4) (.const (.pointer none))⟩])
   (.cond (.tmp 5) (.ret)
    (.skip))],
  [⟨(some 6), none, .mov (.tmp 0)⟩,
    ⟨(some 7), none, .nilc (.tmp 6)⟩,
    ⟨(some 8), none, .fad 1 (.tmp 7)⟩,
    ⟨(some 9), none, .ld none (.tmp 8)⟩], .tmp 9, 10, 11, 12, 13, 0, 1,
  [⟨(some 14), none, .ext 0 (.tmp 13)⟩,
    ⟨(some 15), none, .ext 1 (.tmp 13)⟩,
    ⟨(some 3), none, .new 81 2 [.slice none 0 0, .int .i64 0]⟩,
    ⟨(some 2), none, .mov (.tmp 14)⟩,
    ⟨none, none, .st 2 (.tmp 3) (.tmp 15)⟩],
  .dra [⟨⟨(some 16), none, .mov (.tmp 0)⟩, [], 0, 0⟩,
     ⟨⟨(some 17), none, .nilc (.tmp 16)⟩, [0], 0, 0⟩,
     ⟨⟨(some 18), none, .fad 1 (.tmp 17)⟩, [1], 0, 0⟩,
     ⟨⟨(some 19), none, .ld none (.tmp 18)⟩, [2], 0, 0⟩,
     ⟨⟨(some 20), none, .mov (.tmp 2)⟩, [], 0, 0⟩,
     ⟨⟨(some 21), none, .fad 0 (.tmp 3)⟩, [], 0, 0⟩,
     ⟨⟨(some 22), none, .ld none (.tmp 21)⟩, [5], 0, 0⟩,
     ⟨⟨(some 23), none, .fad 0 (.tmp 3)⟩, [], 0, 0⟩,
     ⟨⟨(some 24), none, .ld none (.tmp 23)⟩, [7], 0, 0⟩,
     ⟨⟨(some 25), none, .len false (.tmp 24)⟩, [8], 0, 0⟩,
     ⟨⟨(some 26), none, .build [.slice none 0 0, .int .i64 0] [(0, 1, .tmp 22), (1, 1, .tmp 25)]⟩, [6, 9], 0, 0⟩,
     ⟨⟨none, none, .mup (.one (.str)) (.tmp 19) (.tmp 20) (.tmp 26)⟩, [3, 4, 10, 0, 1, 2, 3, 4, 5, 6, 7, 8, 9, 10], 0, 1⟩] [0, 1, 2, 3, 4, 5, 6, 7, 8, 9, 10, 11] 1,
  .ops [⟨(some 27), none, .mov (.tmp 0)⟩,
     ⟨(some 28), none, .nilc (.tmp 27)⟩,
     ⟨(some 29), none, .fad 5 (.tmp 28)⟩,
     ⟨none, none, .st 1 (.tmp 29) (.const (.bool false))⟩]⟩, []⟩
theorem k23 : rngF Try.prog 23 = some r23 := by kernel_rfl
theorem k22 : rngF Try.prog 22 = some r22 := by kernel_rfl
theorem k19 : rngF Try.prog 19 = some r19 := by kernel_rfl
end Go.Proofs.Ythclmjelknibhaa.Ev
/- Memory that holds more than was told; how much room is left. -/
namespace Go.Proofs.Ythclmjelknibhaa.Ev
open Go Go.RowKit
set_option linter.unusedVariables false
set_option linter.unusedSimpArgs false

/-- What stands in memory stands in no row that is yet to come. -/
structure Lt (S : AW) : Prop where
  obj : ∀ i o, S.obj i = some o → i < S.next
  fam : ∀ i r, S.obj i = some (.cells r) → r.fam < S.next
theorem RelW.lt' {W0 : Fz} {ρ : Ren} {S : AW} {w : World} (h : RelW W0 ρ S w) : Lt S := ⟨h.objLt, h.famLt⟩
structure Held (S S' : AW) (k : Nat) : Prop where
  next : S'.next = S.next + k
  obj : ∀ i, i < S.next → S'.obj i = S.obj i
  fam : ∀ i, i < S.next → S'.fam i = S.fam i
  bir : ∀ i, i < S.next → S'.bir i = S.bir i
theorem Held.refl (S : AW) : Held S S 0 := ⟨rfl, fun _ _ => rfl, fun _ _ => rfl, fun _ _ => rfl⟩
theorem Held.trans {S S1 S2 : AW} {a b : Nat} (h : Held S S1 a) (k : Held S1 S2 b) : Held S S2 (a + b) :=
  ⟨by rw [k.next, h.next]; omega, fun i hi => (k.obj i (by rw [h.next]; omega)).trans (h.obj i hi), fun i hi => (k.fam i (by rw [h.next]; omega)).trans (h.fam i hi), fun i hi => (k.bir i (by rw [h.next]; omega)).trans (h.bir i hi)⟩
theorem Held.dead (S : AW) : Held S S.dead 1 := ⟨rfl, fun _ _ => rfl, fun _ _ => rfl, fun _ _ => rfl⟩
theorem Held.raw {S S' : AW} {k : Nat} (h : Held S S' k) (hl : Lt S) {i : Nat} {r : Raw} (e : S.raw i = some r) : S'.raw i = some r := by
  obtain ⟨e1, e2⟩ := AW.raw_some e
  exact AW.raw_of ((h.obj i (hl.obj i _ e1)).trans e1) (by rw [h.fam _ (hl.fam i r e1)]; exact e2)
theorem Held.mapv {S S' : AW} {k : Nat} (h : Held S S' k) (hl : Lt S) {i : Nat} {es : List (Value × Value)} (e : S.mapv i = some es) : S'.mapv i = some es := by
  have e1 := AW.mapv_some e
  exact AW.mapv_of ((h.obj i (hl.obj i _ e1)).trans e1)
theorem cell_inv {S : AW} {i o : Nat} {v : Value} (h : S.cell i o = some v) : ∃ r, S.raw i = some r ∧ r.c[o]? = some v ∧ isBad v = false := by
  unfold AW.cell at h
  split at h
  · rename_i r hr
    split at h
    · rename_i v' hv
      split at h
      · cases h
      · rename_i hb
        simp only [Option.some.injEq] at h
        subst h
        exact ⟨r, hr, hv, by simpa using hb⟩
    · cases h
  · cases h
theorem cell_of {S : AW} {i o : Nat} {v : Value} {r : Raw} (h : S.raw i = some r) (hv : r.c[o]? = some v) (hb : isBad v = false) : S.cell i o = some v := by
  unfold AW.cell; rw [h]; simp [hv, hb]
theorem Held.cell {S S' : AW} {k : Nat} (h : Held S S' k) (hl : Lt S) {i o : Nat} {v : Value} (e : S.cell i o = some v) : S'.cell i o = some v := by
  obtain ⟨r, h1, h2, h3⟩ := cell_inv e
  exact cell_of (h.raw hl h1) h2 h3
theorem fg_ext {S S' : AW} {k : Nat} (h : Held S S' k) (hl : Lt S) : Fg { S with next := S.next + k } S' :=
  ⟨h.next.symm, fun i o e => (h.obj i (hl.obj i o e)).trans e, fun i r e => h.fam _ (hl.fam i r e), fun i es e => h.bir _ (hl.obj i _ e)⟩
end Go.Proofs.Ythclmjelknibhaa.Ev
/- How much room is left. -/
namespace Go.Proofs.Ythclmjelknibhaa.Ev
open Go Go.RowKit
set_option linter.unusedVariables false
set_option linter.unusedSimpArgs false

theorem wrap_wrap (a b : Int) : IntKind.wrap .i64 (IntKind.wrap .i64 a - b) = IntKind.wrap .i64 (a - b) := by
  simp only [IntKind.wrap, IntKind.bits, IntKind.signed]
  simp
  split <;> split <;> split <;> omega
theorem sum_all (g : Nat → Nat) : ∀ (N : Nat) (l : List Nat), l.Nodup → (∀ i, i < N → i ∈ l) → (∀ i ∈ l, i < N) → (l.map g).sum = ((List.range N).map g).sum
  | 0, [], _, _, _ => rfl
  | 0, a :: l, _, _, h => absurd (h a (by simp)) (by omega)
  | N + 1, l, hn, h, k => by
    have hm : N ∈ l := h N (by omega)
    have hp := List.perm_cons_erase hm
    have := sum_all g N (l.erase N) (hn.erase N) (fun i hi => hn.mem_erase_iff.mpr ⟨by omega, h i (by omega)⟩) (fun i hi => by
      have h1 := hn.mem_erase_iff.mp hi
      have := k i h1.2
      have := h1.1
      omega)
    rw [(hp.map g).sum_nat, List.map_cons, List.sum_cons, this, List.range_succ, List.map_append, List.sum_append]
    simp
    omega
theorem cell_var (S : AW) (el k : Nat) (z c : List Value) (o : Nat) : ((S.new z el k).put S.next ⟨z, el, k, S.next, 0, false⟩ c).cell S.next o = match c[o]? with | some v => if isBad v then none else some v | none => none := by
  unfold AW.cell
  rw [AW.raw_put_same (AW.raw_new_same S z el k)]
  rfl
theorem held_var (S : AW) (el k : Nat) (z c : List Value) : Held S ((S.new z el k).put S.next ⟨z, el, k, S.next, 0, false⟩ c) 1 :=
  ⟨rfl, fun i hi => by rw [AW.obj_put, if_neg (by omega), AW.obj_new, if_neg (by omega)], fun i hi => by rw [AW.fam_put, if_neg (by show i ≠ S.next; omega), AW.fam_new, if_neg (by omega)], fun i hi => rfl⟩
def isFile (v : Value) : Bool := match v with
  | .agg cs => match cs.toList with
    | [.slice _ _ _, .int .i64 _] => true
    | _ => false
  | _ => false
def lenV (v : Value) : Nat := match v with
  | .agg cs => match cs.toList with
    | [.slice _ n _, _] => n
    | _ => 0
  | _ => 0
theorem isFile_inv {v : Value} (h : isFile v = true) : ∃ a n c m, v = .agg #[.slice a n c, .int .i64 m] ∧ lenV v = n := by
  unfold isFile at h
  split at h
  · rename_i cs
    split at h
    · rename_i a n c m e
      have : cs = #[.slice a n c, .int .i64 m] := Array.toList_inj.mp e
      subst this
      exact ⟨a, n, c, m, rfl, rfl⟩
    · cases h
  · cases h
def gl (es : List (Value × Value)) (i : Nat) : Nat := lenV (es.getD i (.nilFunc, .nilFunc)).2
theorem gl_sum (es : List (Value × Value)) : ((List.range es.length).map (gl es)).sum = (es.map fun p => lenV p.2).sum := by
  congr 1
  refine List.ext_getElem (by simp) fun i h1 h2 => ?_
  have : i < es.length := by simpa using h1
  simp [gl, List.getD_eq_getElem?_getD, List.getElem?_eq_getElem this]
def xLeft (args : List Value) (S : AW) : Option (Value × AW) :=
  match args with
  | [.pointer none] => some (.int .i64 0, S)
  | [.pointer (some ⟨d, 0, none⟩)] => match S.cell d 0, S.cell d 1 with
    | some (.int .i64 room), some (.map (some m)) => match S.mapv m with
      | some es => if (es.all fun p => isFile p.2) && decide (IntKind.wrap .i64 room = room) then some (.int .i64 (IntKind.wrap .i64 (room - ((es.map fun p => lenV p.2).sum : Nat))), { S with next := S.next + (1 + es.length) }) else none
      | none => none
    | _, _ => none
  | _ => none
theorem left_ok {P : Program} (hmx : P.follows .mixedOrders = true) {C : Callee} (hC : COk P C) (n : Nat) (hk : rngF P 23 = some r23) {W0 : Fz} {ρ : Ren} {S : AW} {w : World} (hw : RelW W0 ρ S w) {args : List Value} {args' : Array Value} (ha : ARel ρ args.toArray args') {v : Value} {S' : AW} (h : xLeft args S = some (v, S')) :
    (callFunc 23 args').run P w = .ok (.enter 23 args') w ∧ Calls P 23 args' w fun e w' => ∃ ρ' v', Grow S.next S'.next ρ ρ' ∧ e = .returned v' ∧ VRel ρ' v v' ∧ RelW W0 ρ' S' w' := by
  refine rngF_ok hmx hC n hk hw ha ?_
  have hl := hw.lt'
  unfold xLeft at h
  split at h
  · simp only [Option.some.injEq, Prod.mk.injEq] at h
    obtain ⟨rfl, rfl⟩ := h
    simp [RunR, r23, goPre, evCode, evOps, evOper, evStep, EOp.run, AF.ev, put1, AF.dst, thenN, AF.enter, AF.get, AF.put, getL, putL, nilV, flat, scalar, resV, tupV, Fg.refl]
  · rename_i d
    split at h
    · rename_i room m h0 h1
      split at h
      · rename_i es hes
        split at h
        · rename_i hq
          simp only [Option.some.injEq, Prod.mk.injEq] at h
          obtain ⟨rfl, rfl⟩ := h
          simp only [Bool.and_eq_true, List.all_eq_true, decide_eq_true_eq] at hq
          obtain ⟨hfl, hrm⟩ := hq
          obtain ⟨F1, e1, e2, e3, e4⟩ : ∃ F1, goPre C n r23.k.pre (AF.enter r23.ntmps [.pointer (some ⟨d, 0, none⟩)]) S = some (.normal, F1, S) ∧ F1.n = 27 ∧ F1.get 0 = .pointer (some ⟨d, 0, none⟩) ∧ F1.get 3 = .int .i64 room := by
            refine ⟨_, by simp [r23, goPre, evCode, evOps, evOper, evStep, EOp.run, AF.ev, put1, AF.dst, thenN, AF.enter, AF.get_put, AF.get, AF.put, getL, putL, nilV, flat, scalar, AW.ldV, h0]; rfl, rfl, rfl, rfl⟩
          obtain ⟨F2, e5, e6, e7, e8⟩ : ∃ F2, evOps C r23.k.el0 F1 S = some (F2, S) ∧ F2.n = 27 ∧ F2.get 3 = .int .i64 room ∧ F2.ev r23.k.m = .map (some m) := by
            refine ⟨_, by simp [r23, evOps, evOper, evStep, EOp.run, AF.ev, put1, AF.dst, e2, e3, AW.ldV, h1]; rfl, ?_, ?_, ?_⟩ <;> simp [r23, e2, e4, AF.ev]
          unfold RunR
          rw [e1]
          refine ⟨F2, S, es.length, m, S.bir m, fun done F S' => F.n = 27 ∧ F.get 16 = .pointer (some ⟨S.next, 0, none⟩) ∧ F.get 3 = .int .i64 (IntKind.wrap .i64 (room - ((done.map (gl es)).sum : Nat))) ∧ Held S S' (1 + done.length), e5, ⟨e8, by rw [e6]; decide, ?_, ?_, ?_, ?_⟩, ?_⟩
          · exact ⟨by simp [e6], by simp [r23], by simp [r23, e7, hrm], Held.dead S⟩
          · rintro done F S1 ⟨i1, i2, i3, i4⟩
            exact ⟨⟨es, i4.mapv hl hes, rfl⟩, i4.bir m (hl.obj m _ (AW.mapv_some hes)), by rw [i1]; decide, by rw [i1]; decide, by rw [i1]; decide, i2⟩
          · rintro done F S1 F' ⟨i1, i2, i3, i4⟩ hx hn
            exact ⟨hn.trans i1, (hx 16 (by decide) (by decide) (by decide)).trans i2, (hx 3 (by decide) (by decide) (by decide)).trans i3, i4⟩
          · rintro done F S1 i es2 e ⟨i1, i2, i3, i4⟩ hid hm2 he hte
            have : es2 = es := by
              have := i4.mapv hl hes
              rw [hm2] at this
              exact Option.some.inj this
            subst this
            obtain ⟨a, k, c, mm, hf, hlen⟩ := isFile_inv (hfl e (List.mem_of_getElem? he))
            have hg : gl es2 i = k := by
              unfold gl
              rw [List.getD_eq_getElem?_getD, he]; exact hlen
            have hte : F.get 19 = .tuple #[e.1, .agg #[.slice a k c, .int .i64 mm]] := by rw [← hf]; exact hte
            refine ⟨_, _, by simp [bodyR, r23, evOps, evOper, evStep, EOp.run, evCode, thenN, AF.ev, put1, AF.dst, i1, hte, cellsOf, cellOk, AW.raw_new_same, rowOk, isBad, AW.ldV, cell_var, i3, binV, iop]; exact ⟨rfl, rfl⟩, ?_, ?_, ?_, ?_⟩
            · simp [i1]
            · simp [i2]
            · simp only [AF.get_put, if_true, wrap_wrap, List.map_cons, List.sum_cons, hg]
              congr 2
              omega
            · have := i4.trans (held_var S1 81 2 [.slice none 0 0, .int .i64 0] [.slice a k c, .int .i64 mm])
              simpa [Nat.add_assoc] using this
          · rintro done F S1 ⟨i1, i2, i3, i4⟩ h1 h2 h3
            refine ⟨(.ret, _, S1), by simp [r23, evCode, evOps, evOper, evStep, EOp.run, AF.ev, put1, AF.dst, thenN, i1, i3]; rfl, by simp, _, by simp [r23, resV]; rfl, ?_, ?_⟩
            · rw [sum_all (gl es) es.length done h3 h1 h2, gl_sum]
              rfl
            · have hlen : done.length = es.length := by
                have := sum_all (fun _ => 1) es.length done h3 h1 h2
                have hc : ∀ l : List Nat, (l.map fun _ => 1).sum = l.length := fun l => by induction l with | nil => rfl | cons a l ih => simp only [List.map_cons, List.sum_cons, List.length_cons, ih]; omega
                rw [hc, hc, List.length_range] at this
                exact this
              rw [← hlen]
              exact fg_ext i4 hl
        · cases h
      · cases h
    · cases h
  · cases h
end Go.Proofs.Ythclmjelknibhaa.Ev
/- A map whose values are told anew, one by one. -/
namespace Go.Proofs.Ythclmjelknibhaa.Ev
open Go Go.RowKit
set_option linter.unusedVariables false
set_option linter.unusedSimpArgs false

theorem obj_putMap (S : AW) (i : Nat) (es : List (Value × Value)) (b : List Nat × Nat) (j : Nat) : (S.putMap i es b).obj j = if j = i then some (.map es) else S.obj j := look_lput _ _ _ _
theorem bir_putMap (S : AW) (i : Nat) (es : List (Value × Value)) (b : List Nat × Nat) (j : Nat) : (S.putMap i es b).bir j = if j = i then b else S.bir j := by
  simp only [AW.bir, AW.putMap, look_lput]
  by_cases h : j = i
  · simp [h]
  · simp [h]
theorem raw_putMap {S : AW} {i : Nat} {es : List (Value × Value)} {b : List Nat × Nat} {j : Nat} (h : j ≠ i) : (S.putMap i es b).raw j = S.raw j := by
  unfold AW.raw; rw [obj_putMap, if_neg h]; rfl
theorem mapv_putMap (S : AW) (i : Nat) (es : List (Value × Value)) (b : List Nat × Nat) : (S.putMap i es b).mapv i = some es := AW.mapv_of (by rw [obj_putMap, if_pos rfl])
theorem held_putMap {S S' : AW} {k m : Nat} {e : List (Value × Value)} {b : List Nat × Nat} (h : Held (S.putMap m e b) S' k) (e' : List (Value × Value)) (b' : List Nat × Nat) : Held (S.putMap m e' b') (S'.putMap m e' b') k :=
  ⟨h.next, fun i hi => by
    rw [obj_putMap, obj_putMap]
    split
    · rfl
    · rename_i hne; have := h.obj i hi; rw [obj_putMap, if_neg hne] at this; exact this, fun i hi => h.fam i hi, fun i hi => by
    rw [bir_putMap, bir_putMap]
    split
    · rfl
    · rename_i hne; have := h.bir i hi; rw [bir_putMap, if_neg hne] at this; exact this⟩
theorem held_same {S : AW} {m : Nat} {es : List (Value × Value)} (h : S.mapv m = some es) : Held (S.putMap m es (S.bir m)) S 0 :=
  ⟨rfl, fun i hi => by
    rw [obj_putMap]
    split
    · rename_i e; rw [e]; exact AW.mapv_some h
    · rfl, fun i hi => rfl, fun i hi => by
    rw [bir_putMap]
    split
    · rename_i e; rw [e]
    · rfl⟩
theorem all_len {N : Nat} {done : List Nat} (h3 : done.Nodup) (h1 : ∀ i, i < N → i ∈ done) (h2 : ∀ i ∈ done, i < N) : done.length = N := by
  have := sum_all (fun _ => 1) N done h3 h1 h2
  have hc : ∀ l : List Nat, (l.map fun _ => 1).sum = l.length := fun l => by induction l with | nil => rfl | cons a l ih => simp only [List.map_cons, List.sum_cons, List.length_cons, ih]; omega
  rw [hc, hc, List.length_range] at this
  exact this
theorem lt_putMap {S : AW} (h : Lt S) {m : Nat} (hm : m < S.next) (es : List (Value × Value)) (b : List Nat × Nat) : Lt (S.putMap m es b) :=
  ⟨fun i o e => by
    rw [obj_putMap] at e
    split at e
    · rename_i hi; rw [hi]; exact hm
    · exact h.obj i o e, fun i r e => by
    rw [obj_putMap] at e
    split at e
    · cases e
    · exact h.fam i r e⟩
theorem held_put {S S' : AW} {k : Nat} (h : Held S S' k) {d : Nat} {r : Raw} (hd : d < S.next) (hr : r.fam < S.next) (c : List Value) : Held (S.put d r c) (S'.put d r c) k :=
  ⟨h.next, fun i hi => by
    have hf := h.fam r.fam hr
    rw [AW.obj_put, AW.obj_put]
    split
    · rw [hf]
    · exact h.obj i hi, fun i hi => by
    have hf := h.fam r.fam hr
    rw [AW.fam_put, AW.fam_put]
    split
    · rw [hf]
    · exact h.fam i hi, fun i hi => h.bir i hi⟩
theorem lt_put {S : AW} (h : Lt S) {d : Nat} {r : Raw} (hr : S.raw d = some r) (c : List Value) : Lt (S.put d r c) := by
  obtain ⟨h1, _⟩ := AW.raw_some hr
  refine ⟨fun i o e => ?_, fun i q e => ?_⟩
  · rw [AW.obj_put] at e
    split at e
    · rename_i hi; rw [hi]; exact h.obj d _ h1
    · exact h.obj i o e
  · rw [AW.obj_put] at e
    split at e
    · simp only [Option.some.injEq, AObj.cells.injEq] at e
      subst e
      exact h.fam d r h1
    · exact h.fam i q e
theorem mixs_keys (ks : KS) (k : Value) : ∀ (es fs : List (Value × Value)) (n : Nat), es.map (·.1) = fs.map (·.1) → mixs ks k es n = mixs ks k fs n
  | [], [], _, _ => rfl
  | [], b :: fs, _, h => by simp at h
  | a :: es, [], _, h => by simp at h
  | a :: es, b :: fs, n, h => by
    simp only [List.map_cons, List.cons.injEq] at h
    simp only [mixs, h.1, mixs_keys ks k es fs (n + 1) h.2]
theorem mfind_keys (ks : KS) (k : Value) {es fs : List (Value × Value)} (h : es.map (·.1) = fs.map (·.1)) : mfind ks k es = mfind ks k fs := by
  have h1 : (es.all fun e => fits ks e.1) = (fs.all fun e => fits ks e.1) := by
    have : ∀ l : List (Value × Value), (l.all fun e => fits ks e.1) = (l.map (·.1)).all (fits ks) := fun l => by rw [List.all_map]; rfl
    rw [this, this, h]
  unfold mfind
  rw [h1, mixs_keys ks k es fs 0 h]
/-- Each key is found where it stands. -/
def keysOk (es : List (Value × Value)) : Bool := (List.range es.length).all fun i => match es[i]? with
  | some e => decide (mfind (.one .str) e.1 es = some (some i))
  | none => false
theorem keysOk_inv {es : List (Value × Value)} (h : keysOk es = true) {i : Nat} {e : Value × Value} (he : es[i]? = some e) : mfind (.one .str) e.1 es = some (some i) := by
  unfold keysOk at h
  rw [List.all_eq_true] at h
  have := h i (List.mem_range.mpr (List.getElem?_eq_some_iff.mp he).1)
  rw [he] at this
  exact of_decide_eq_true this
def updE (f : Value → Value) (done : List Nat) (es : List (Value × Value)) : List (Value × Value) := es.mapIdx fun i p => if i ∈ done then (p.1, f p.2) else p
theorem updE_len (f : Value → Value) (done : List Nat) (es : List (Value × Value)) : (updE f done es).length = es.length := by simp [updE]
theorem updE_get (f : Value → Value) (done : List Nat) (es : List (Value × Value)) (i : Nat) : (updE f done es)[i]? = (es[i]?).map fun p => if i ∈ done then (p.1, f p.2) else p := by simp [updE]
theorem updE_keys (f : Value → Value) (done : List Nat) (es : List (Value × Value)) : (updE f done es).map (·.1) = es.map (·.1) := by
  refine List.ext_getElem? fun i => ?_
  rw [List.getElem?_map, List.getElem?_map, updE_get]
  cases es[i]? with
  | none => rfl
  | some p => simp only [Option.map_some]; split <;> rfl
theorem updE_nil (f : Value → Value) (es : List (Value × Value)) : updE f [] es = es := by
  refine List.ext_getElem? fun i => ?_
  rw [updE_get]
  cases es[i]? <;> simp
theorem updE_all (f : Value → Value) {done : List Nat} {es : List (Value × Value)} (h : ∀ i, i < es.length → i ∈ done) : updE f done es = es.map fun p => (p.1, f p.2) := by
  refine List.ext_getElem? fun i => ?_
  rw [updE_get, List.getElem?_map]
  cases he : es[i]? with
  | none => rfl
  | some p => simp only [Option.map_some]; rw [if_pos (h i (List.getElem?_eq_some_iff.mp he).1)]
theorem updE_set (f : Value → Value) {done : List Nat} {es : List (Value × Value)} {i : Nat} {p : Value × Value} (hp : es[i]? = some p) : (updE f done es).set i (p.1, f p.2) = updE f (i :: done) es := by
  refine List.ext_getElem? fun j => ?_
  rw [List.getElem?_set, updE_get, updE_get, updE_len]
  have hi := (List.getElem?_eq_some_iff.mp hp).1
  by_cases hj : i = j
  · subst hj
    have he := (List.getElem?_eq_some_iff.mp hp).2
    simp [hi, he]
  · rw [if_neg hj]
    have : (j ∈ i :: done) ↔ j ∈ done := by simp [Ne.symm hj]
    simp only [this]
theorem updE_read (f : Value → Value) {done : List Nat} {es : List (Value × Value)} {i : Nat} {e : Value × Value} (hid : i ∉ done) (h : (updE f done es)[i]? = some e) : es[i]? = some e := by
  rw [updE_get] at h
  simpa [hid] using h
theorem mup_upd {S1 : AW} {m : Nat} {f : Value → Value} {done : List Nat} {es : List (Value × Value)} {i : Nat} {p : Value × Value} {v : Value} (hm : S1.mapv m = some (updE f done es)) (hk : keysOk es = true) (hp : es[i]? = some p) (hv : v = f p.2) :
    mupV S1 (.one .str) (.map (some m)) p.1 v = some (S1.putMap m (updE f (i :: done) es) (S1.bir m)) := by
  unfold mupV
  simp only [hm, mfind_keys (.one .str) p.1 (updE_keys f done es), keysOk_inv hk hp]
  rw [hv, updE_set f hp]
end Go.Proofs.Ythclmjelknibhaa.Ev
/- The disk goes on. -/
namespace Go.Proofs.Ythclmjelknibhaa.Ev
open Go Go.RowKit
set_option linter.unusedVariables false
set_option linter.unusedSimpArgs false

def lastsV (v : Value) : Value := match v with
  | .agg cs => match cs.toList with
    | [.slice a n c, _] => .agg #[.slice a n c, .int .i64 n]
    | _ => v
  | _ => v
def xPower (args : List Value) (S : AW) : Option (Value × AW) :=
  match args with
  | [.pointer none] => some (.tuple #[], S)
  | [.pointer (some ⟨d, 0, none⟩)] => match S.raw d with
    | some ⟨[v0, .map (some m), v2, v3, v4, v5], el, es, fam, gen, false⟩ => match S.mapv m with
      | some fs => if (fs.all fun p => isFile p.2) && keysOk fs && !isBad v5 then
          some (.tuple #[], { (S.putMap m (fs.map fun p => (p.1, lastsV p.2)) (S.bir m)).put d ⟨[v0, .map (some m), v2, v3, v4, v5], el, es, fam, gen, false⟩ [v0, .map (some m), v2, v3, v4, .bool false] with next := S.next + (1 + fs.length) }) else none
      | none => none
    | _ => none
  | _ => none
theorem power_ok {P : Program} (hmx : P.follows .mixedOrders = true) {C : Callee} (hC : COk P C) (n : Nat) (hk : rngF P 19 = some r19) {W0 : Fz} {ρ : Ren} {S : AW} {w : World} (hw : RelW W0 ρ S w) {args : List Value} {args' : Array Value} (ha : ARel ρ args.toArray args') {v : Value} {S' : AW} (h : xPower args S = some (v, S')) :
    (callFunc 19 args').run P w = .ok (.enter 19 args') w ∧ Calls P 19 args' w fun e w' => ∃ ρ' v', Grow S.next S'.next ρ ρ' ∧ e = .returned v' ∧ VRel ρ' v v' ∧ RelW W0 ρ' S' w' := by
  refine rngF_ok hmx hC n hk hw ha ?_
  have hl := hw.lt'
  unfold xPower at h
  split at h
  · simp only [Option.some.injEq, Prod.mk.injEq] at h
    obtain ⟨rfl, rfl⟩ := h
    simp [RunR, r19, goPre, evCode, evOps, evOper, evStep, EOp.run, AF.ev, put1, AF.dst, thenN, AF.enter, AF.get, AF.put, getL, putL, nilV, flat, scalar, resV, tupV, Fg.refl]
  · rename_i d
    split at h
    · rename_i v0 m v2 v3 v4 v5 el esz fam gen hd
      split at h
      · rename_i es hes
        split at h
        · rename_i hq
          simp only [Option.some.injEq, Prod.mk.injEq] at h
          obtain ⟨rfl, rfl⟩ := h
          simp only [Bool.and_eq_true, List.all_eq_true, Bool.not_eq_true'] at hq
          obtain ⟨⟨hfl, hko⟩, hv5⟩ := hq
          have h1 : S.cell d 1 = some (.map (some m)) := cell_of hd rfl rfl
          obtain ⟨hd1, hd2⟩ := AW.raw_some hd
          have hm1 := AW.mapv_some hes
          have hdm : d ≠ m := fun e => by rw [e, hm1] at hd1; cases hd1
          have hmn := hl.obj m _ hm1
          have hdn := hl.obj d _ hd1
          have hfn := hl.fam d _ hd1
          obtain ⟨F1, e1, e2, e3⟩ : ∃ F1, goPre C n r19.k.pre (AF.enter r19.ntmps [.pointer (some ⟨d, 0, none⟩)]) S = some (.normal, F1, S) ∧ F1.n = 30 ∧ F1.get 0 = .pointer (some ⟨d, 0, none⟩) := by
            refine ⟨_, by simp [r19, goPre, evCode, evOps, evOper, evStep, EOp.run, AF.ev, put1, AF.dst, thenN, AF.enter, AF.get_put, AF.get, AF.put, getL, putL, nilV, flat, scalar, AW.ldV]; rfl, rfl, rfl⟩
          obtain ⟨F2, e5, e6, e7, e8⟩ : ∃ F2, evOps C r19.k.el0 F1 S = some (F2, S) ∧ F2.n = 30 ∧ F2.get 0 = .pointer (some ⟨d, 0, none⟩) ∧ F2.ev r19.k.m = .map (some m) := by
            refine ⟨_, by simp [r19, evOps, evOper, evStep, EOp.run, AF.ev, put1, AF.dst, e2, e3, AW.ldV, h1]; rfl, ?_, ?_, ?_⟩ <;> simp [r19, e2, e3, AF.ev]
          unfold RunR
          rw [e1]
          refine ⟨F2, S, es.length, m, S.bir m, fun done F S' => F.n = 30 ∧ F.get 10 = .pointer (some ⟨S.next, 0, none⟩) ∧ F.get 0 = .pointer (some ⟨d, 0, none⟩) ∧ Held (S.putMap m (updE lastsV done es) (S.bir m)) S' (1 + done.length), e5, ⟨e8, by rw [e6]; decide, ?_, ?_, ?_, ?_⟩, ?_⟩
          · refine ⟨by simp [e6], by simp [r19], by simp [r19, e7], ?_⟩
            rw [updE_nil]
            exact (held_same hes).trans (Held.dead S)
          · rintro done F S1 ⟨i1, i2, i3, i4⟩
            have := i4.mapv (lt_putMap hl hmn _ _) (mapv_putMap S m _ _)
            exact ⟨⟨_, this, updE_len _ _ _⟩, (i4.bir m hmn).trans (by rw [bir_putMap, if_pos rfl]), by rw [i1]; decide, by rw [i1]; decide, by rw [i1]; decide, i2⟩
          · rintro done F S1 F' ⟨i1, i2, i3, i4⟩ hx hn
            exact ⟨hn.trans i1, (hx 10 (by decide) (by decide) (by decide)).trans i2, (hx 0 (by decide) (by decide) (by decide)).trans i3, i4⟩
          · rintro done F S1 i es2 e ⟨i1, i2, i3, i4⟩ hid hm2 he hte
            have hmv := i4.mapv (lt_putMap hl hmn _ _) (mapv_putMap S m _ _)
            have : es2 = updE lastsV done es := by
              rw [hm2] at hmv
              exact Option.some.inj hmv
            subst this
            have he := updE_read lastsV hid he
            obtain ⟨a, k, c, mm, hf, hlen⟩ := isFile_inv (hfl e (List.mem_of_getElem? he))
            have hte : F.get 13 = .tuple #[e.1, .agg #[.slice a k c, .int .i64 mm]] := by rw [← hf]; exact hte
            obtain ⟨F3, S2, b1, b2, b3, b4, b5, b6, b7, b8⟩ : ∃ F3 S2, evOps C r19.k.el F S1 = some (F3, S2) ∧ F3.n = 30 ∧ F3.get 10 = .pointer (some ⟨S.next, 0, none⟩) ∧ F3.get 0 = .pointer (some ⟨d, 0, none⟩) ∧ F3.get 2 = e.1 ∧ F3.get 3 = .pointer (some ⟨S1.next, 0, none⟩) ∧ Held S1 S2 1 ∧ S2.cell S1.next 0 = some (.slice a k c) := by
              refine ⟨_, _, by simp [r19, evOps, evOper, evStep, EOp.run, evCode, thenN, AF.ev, put1, AF.dst, i1, hte, cellsOf, cellOk, AW.raw_new_same, rowOk, isBad]; rfl, by simp [i1], by simp [i2], by simp [i3], by simp, by simp, held_var S1 81 2 [.slice none 0 0, .int .i64 0] [.slice a k c, .int .i64 mm], by simp [cell_var, isBad]⟩
            have i5 := i4.trans b7
            have hlx : Lt (S.putMap m (updE lastsV done es) (S.bir m)) := lt_putMap hl hmn _ _
            have hdc : S2.cell d 1 = some (.map (some m)) := i5.cell hlx (cell_of ((raw_putMap hdm).trans hd) rfl rfl)
            have hmv2 := i5.mapv hlx (mapv_putMap S m _ _)
            have hmup := mup_upd (f := lastsV) hmv2 hko he (v := .agg #[.slice a k c, .int .i64 k]) (by rw [hf]; rfl)
            obtain ⟨F4, d1, d2, d3, d4⟩ : ∃ F4, evCode C n r19.k.er F3 S2 = some (.normal, F4, S2.putMap m (updE lastsV (i :: done) es) (S2.bir m)) ∧ F4.n = 30 ∧ F4.get 10 = .pointer (some ⟨S.next, 0, none⟩) ∧ F4.get 0 = .pointer (some ⟨d, 0, none⟩) := by
              refine ⟨_, congrArg thenN (si_dra (by decide) rfl (by simp [flatD, DOper.ch, EOp.kind, pdOf, stillAll, addPd, evSI, evE, EOp.run, AF.ev, AF.dst, b2, b4, b5, b6, AW.ldV, hdc, b8, fillL, isBad, cellsOf, hmup]; rfl)), by simp [b2], by simp [b3], by simp [b4]⟩
            refine ⟨F4, _, by unfold bodyR; rw [b1]; exact d1, d2, d3, d4, ?_⟩
            have hb2 : S2.bir m = S.bir m := (i5.bir m hmn).trans (by rw [bir_putMap, if_pos rfl])
            rw [hb2]
            have := held_putMap i5 (updE lastsV (i :: done) es) (S.bir m)
            simpa [Nat.add_assoc] using this
          · rintro done F S1 ⟨i1, i2, i3, i4⟩ h1 h2 h3
            have hr : S1.raw d = some ⟨[v0, .map (some m), v2, v3, v4, v5], el, esz, fam, gen, false⟩ := i4.raw (lt_putMap hl hmn _ _) ((raw_putMap hdm).trans hd)
            refine ⟨(.normal, _, S1.put d ⟨[v0, .map (some m), v2, v3, v4, v5], el, esz, fam, gen, false⟩ [v0, .map (some m), v2, v3, v4, .bool false]), by simp [r19, evCode, evOps, evOper, evStep, EOp.run, AF.ev, put1, AF.dst, thenN, i1, i3, hr, flat, scalar, cellsOf, cellOk, rowOk, hv5]; rfl, by simp, [], by simp [r19, resV], rfl, ?_⟩
            have hlen := all_len h3 h1 h2
            rw [updE_all lastsV h1] at i4
            rw [hlen] at i4
            exact fg_ext (held_put i4 hdn hfn _) (lt_put (lt_putMap hl hmn _ _) ((raw_putMap hdm).trans hd) _)
        · cases h
      · cases h
    · cases h
  · cases h
end Go.Proofs.Ythclmjelknibhaa.Ev
/- What a crash leaves of one file. -/
namespace Go.Proofs.Ythclmjelknibhaa.Ev
open Go Go.RowKit
set_option linter.unusedVariables false
set_option linter.unusedSimpArgs false
def e59 : EFunc :=
 ⟨22, .seq (.ops [⟨(some 2), none, .box 81 2 (.tmp 0)⟩,
    ⟨(some 4), none, .new 81 2 [.slice none 0 0, .int .i64 0]⟩])
  (.seq (.ops [⟨(some 5), none, .fad 0 (.tmp 2)⟩,
    ⟨(some 6), none, .ld none (.tmp 5)⟩,
    ⟨(some 7), none, .fad 1 (.tmp 2)⟩,
    ⟨(some 8), none, .ld none (.tmp 7)⟩,
    ⟨(some 9), none, .mov (.tmp 1)⟩,
    ⟨(some 10), none, .fad 0 (.tmp 2)⟩,
    ⟨(some 11), none, .ld none (.tmp 10)⟩,
    ⟨(some 12), none, .len false (.tmp 11)⟩,
    ⟨(some 13), none, .fad 1 (.tmp 2)⟩,
    ⟨(some 14), none, .ld none (.tmp 13)⟩,
    ⟨(some 15), none, .bin .sub (.tmp 12) (.tmp 14)⟩,
    ⟨(some 16), none, .mn [.tmp 9, .tmp 15]⟩,
    ⟨(some 17), none, .mx [.const (.int .i64 0), .tmp 16]⟩,
    ⟨(some 18), none, .bin .add (.tmp 8) (.tmp 17)⟩,
    ⟨(some 19), none, .slV 1 (.tmp 6) none (some (.tmp 18)) none⟩,
    ⟨(some 20), none, .fad 0 (.tmp 2)⟩,
    ⟨none, none, .st 1 (.tmp 20) (.tmp 19)⟩])
  (.seq (.ops [⟨(some 21), none, .ld (some 2) (.tmp 2)⟩,
    ⟨none, none, .st 2 (.tmp 4) (.tmp 21)⟩])
  (.ret))), [(4, some (some 2))]⟩
theorem k59 : compileF Try.prog 59 = some e59 := by kernel_rfl
theorem raw_put_ne {S : AW} {d j : Nat} {r s : Raw} (hj : j ≠ d) (hf : s.fam ≠ r.fam) (h : S.raw j = some s) (c : List Value) : (S.put d r c).raw j = some s := by
  obtain ⟨h1, h2⟩ := AW.raw_some h
  exact AW.raw_of (by rw [AW.obj_put, if_neg hj]; exact h1) (by rw [AW.fam_put, if_neg hf]; exact h2)
theorem held_put_new {S S' : AW} {k : Nat} (h : Held S S' k) {d : Nat} {r : Raw} (hd : S.next ≤ d) (hr : S.next ≤ r.fam) (c : List Value) : Held S (S'.put d r c) k :=
  ⟨h.next, fun i hi => by rw [AW.obj_put, if_neg (by omega)]; exact h.obj i hi, fun i hi => by rw [AW.fam_put, if_neg (by omega)]; exact h.fam i hi, fun i hi => h.bir i hi⟩
theorem held_new (S : AW) (c : List Value) (el es : Nat) : Held S (S.new c el es) 1 :=
  ⟨rfl, fun i hi => by rw [AW.obj_new, if_neg (by omega)], fun i hi => by rw [AW.fam_new, if_neg (by omega)], fun i hi => rfl⟩
theorem raw_new_old {S : AW} {j : Nat} {s : Raw} (hj : j ≠ S.next) (hf : s.fam ≠ S.next) (h : S.raw j = some s) (c : List Value) (el es : Nat) : (S.new c el es).raw j = some s := by
  obtain ⟨h1, h2⟩ := AW.raw_some h
  exact AW.raw_of (by rw [AW.obj_new, if_neg hj]; exact h1) (by rw [AW.fam_new, if_neg hf]; exact h2)
def cutN (n l : Nat) (part : Int) : Nat := l + (max 0 (min part ((n : Int) - l))).toNat
theorem Held.raw' {S S' : AW} {k : Nat} (h : Held S S' k) {i : Nat} {r : Raw} (e : S.raw i = some r) (h1 : i < S.next) (h2 : r.fam < S.next) : S'.raw i = some r := by
  obtain ⟨e1, e2⟩ := AW.raw_some e
  exact AW.raw_of ((h.obj i h1).trans e1) (by rw [h.fam _ h2]; exact e2)
theorem cutN_le {n l : Nat} (h : l ≤ n) (part : Int) : cutN n l part ≤ n := by unfold cutN; omega
theorem wrap_sub {n l : Nat} (h : l ≤ n) (hn : n < 4611686018427387904) : IntKind.wrap .i64 ((n : Int) - l) = (n : Int) - l := by
  simp only [IntKind.wrap, IntKind.bits, IntKind.signed]
  simp
  omega
theorem wrap_cut {n l : Nat} (h : l ≤ n) (hn : n < 4611686018427387904) (part : Int) :
    IntKind.wrap .i64 ((l : Int) + (if (if (n : Int) - l < part then (n : Int) - l else part) > 0 then (if (n : Int) - l < part then (n : Int) - l else part) else 0)) = (cutN n l part : Int) := by
  have : (l : Int) + (if (if (n : Int) - l < part then (n : Int) - l else part) > 0 then (if (n : Int) - l < part then (n : Int) - l else part) else 0) = (cutN n l part : Int) := by
    unfold cutN
    split <;> split at * <;> omega
  rw [this]
  have := cutN_le h part
  simp only [IntKind.wrap, IntKind.bits, IntKind.signed]
  simp
  omega
theorem cut_ev (C : Callee) (k : Nat) {S : AW} {i o n c l : Nat} {part : Int} {r : Raw} (hr : S.raw i = some r) (hi1 : i < S.next) (hi2 : r.fam < S.next) (he : r.es = 1) (hln : l ≤ n) (hnc : n ≤ c) (hn : n < 4611686018427387904) :
    ∃ S', evFn C k e59 [.agg #[.slice (some ⟨i, o, none⟩) n c, .int .i64 l], .int .i64 part] S = some (.agg #[.slice (some ⟨i, o, none⟩) (cutN n l part) c, .int .i64 l], S') ∧ Held S S' 2 := by
  have w2 := wrap_cut hln hn part
  have hcut := cutN_le hln part
  have hcut2 := Nat.le_trans hcut hnc
  obtain ⟨F1, S1, a1, a2, a3, a4, a5, a6, a7, a8⟩ : ∃ F1 S1, evOps C [⟨(some 2), none, .box 81 2 (.tmp 0)⟩, ⟨(some 4), none, .new 81 2 [.slice none 0 0, .int .i64 0]⟩] (AF.enter 22 [.agg #[.slice (some ⟨i, o, none⟩) n c, .int .i64 l], .int .i64 part]) S = some (F1, S1) ∧ F1.n = 22 ∧ F1.get 1 = .int .i64 part ∧ F1.get 2 = .pointer (some ⟨S.next, 0, none⟩) ∧ F1.get 4 = .pointer (some ⟨S.next + 1, 0, none⟩) ∧ Held S S1 2 ∧
      S1.raw S.next = some ⟨[.slice (some ⟨i, o, none⟩) n c, .int .i64 l], 81, 2, S.next, 0, false⟩ ∧ S1.raw (S.next + 1) = some ⟨[.slice none 0 0, .int .i64 0], 81, 2, S.next + 1, 0, false⟩ := by
    refine ⟨_, _, by simp [evOps, evOper, evStep, EOp.run, AF.ev, put1, AF.dst, AF.enter, AF.get, AF.put, getL, putL, isBad, cellsOf]; exact ⟨rfl, rfl⟩, rfl, rfl, rfl, rfl, (held_new S _ 81 2).trans (held_new _ [.slice none 0 0, .int .i64 0] 81 2), ?_, AW.raw_new_same _ _ _ _⟩
    exact raw_new_old (by show S.next ≠ S.next + 1; omega) (by show S.next ≠ S.next + 1; omega) (AW.raw_new_same S _ 81 2) _ _ _
  have hri : S1.raw i = some r := a6.raw' hr hi1 hi2
  have w1 := wrap_sub hln hn
  obtain ⟨F2, b1, b2, b3, b4⟩ : ∃ F2, evOps C [⟨(some 5), none, .fad 0 (.tmp 2)⟩, ⟨(some 6), none, .ld none (.tmp 5)⟩, ⟨(some 7), none, .fad 1 (.tmp 2)⟩, ⟨(some 8), none, .ld none (.tmp 7)⟩, ⟨(some 9), none, .mov (.tmp 1)⟩, ⟨(some 10), none, .fad 0 (.tmp 2)⟩, ⟨(some 11), none, .ld none (.tmp 10)⟩, ⟨(some 12), none, .len false (.tmp 11)⟩, ⟨(some 13), none, .fad 1 (.tmp 2)⟩, ⟨(some 14), none, .ld none (.tmp 13)⟩, ⟨(some 15), none, .bin .sub (.tmp 12) (.tmp 14)⟩,
      ⟨(some 16), none, .mn [.tmp 9, .tmp 15]⟩, ⟨(some 17), none, .mx [.const (.int .i64 0), .tmp 16]⟩, ⟨(some 18), none, .bin .add (.tmp 8) (.tmp 17)⟩, ⟨(some 19), none, .slV 1 (.tmp 6) none (some (.tmp 18)) none⟩, ⟨(some 20), none, .fad 0 (.tmp 2)⟩, ⟨none, none, .st 1 (.tmp 20) (.tmp 19)⟩] F1 S1 = some (F2, S1.put S.next ⟨[.slice (some ⟨i, o, none⟩) n c, .int .i64 l], 81, 2, S.next, 0, false⟩ [.slice (some ⟨i, o, none⟩) (cutN n l part) c, .int .i64 l]) ∧ F2.n = 22 ∧ F2.get 2 = .pointer (some ⟨S.next, 0, none⟩) ∧ F2.get 4 = .pointer (some ⟨S.next + 1, 0, none⟩) := by
    refine ⟨_, by simp [evOps, evOper, evStep, EOp.run, AF.ev, put1, AF.dst, a2, a3, a4, a5, AW.ldV, AW.cell, a7, isBad, binV, iop, w1, mmV, mstep, flat, scalar, w2, oint, cutB, hri, he, hcut, hcut2, hnc, cellsOf, cellOk, rowOk]; rfl, by simp [a2], by simp [a4], by simp [a5]⟩
  have c1 := AW.raw_put_same a7 [.slice (some ⟨i, o, none⟩) (cutN n l part) c, .int .i64 l]
  have c2 := raw_put_ne (by omega) (by show S.next + 1 ≠ S.next; omega) a8 (d := S.next) (r := ⟨[.slice (some ⟨i, o, none⟩) n c, .int .i64 l], 81, 2, S.next, 0, false⟩) [.slice (some ⟨i, o, none⟩) (cutN n l part) c, .int .i64 l]
  have c3 := held_put_new a6 (Nat.le_refl S.next) (r := ⟨[.slice (some ⟨i, o, none⟩) n c, .int .i64 l], 81, 2, S.next, 0, false⟩) (Nat.le_refl S.next) [.slice (some ⟨i, o, none⟩) (cutN n l part) c, .int .i64 l]
  generalize S1.put S.next ⟨[.slice (some ⟨i, o, none⟩) n c, .int .i64 l], 81, 2, S.next, 0, false⟩ [.slice (some ⟨i, o, none⟩) (cutN n l part) c, .int .i64 l] = S2 at *
  have c4 := held_put_new c3 (d := S.next + 1) (by omega) (r := ⟨[.slice none 0 0, .int .i64 0], 81, 2, S.next + 1, 0, false⟩) (by show S.next ≤ S.next + 1; omega) [.slice (some ⟨i, o, none⟩) (cutN n l part) c, .int .i64 l]
  have c5 := AW.raw_put_same c2 [.slice (some ⟨i, o, none⟩) (cutN n l part) c, .int .i64 l]
  refine ⟨_, ?_, c4⟩
  unfold Raw.aged at c1
  have e1 : evCode C k e59.body (AF.enter 22 [.agg #[.slice (some ⟨i, o, none⟩) n c, .int .i64 l], .int .i64 part]) S = some (.ret, (F2.put 21 (.agg #[.slice (some ⟨i, o, none⟩) (cutN n l part) c, .int .i64 l])), S2.put (S.next + 1) ⟨[.slice none 0 0, .int .i64 0], 81, 2, S.next + 1, 0, false⟩ [.slice (some ⟨i, o, none⟩) (cutN n l part) c, .int .i64 l]) := by
    unfold e59
    simp only [evCode, a1, thenN, b1]
    simp [evOps, evOper, evStep, EOp.run, AF.ev, put1, AF.dst, b2, b3, b4, AW.ldV, AW.row, c1, c2, rowOk, isBad, cellsOf, cellOk]
  unfold evFn finish
  rw [show e59.ntmps = 22 from rfl, e1]
  simp [e59, resV, b4, AW.ldV, AW.row, c5, Raw.aged, rowOk, isBad, tupV]
end Go.Proofs.Ythclmjelknibhaa.Ev
/- What a crash leaves of the disk. -/
namespace Go.Proofs.Ythclmjelknibhaa.Ev
open Go Go.RowKit
set_option linter.unusedVariables false
set_option linter.unusedSimpArgs false

theorem cut_ev0 (C : Callee) (k : Nat) {S : AW} {part : Int} :
    ∃ S', evFn C k e59 [.agg #[.slice none 0 0, .int .i64 0], .int .i64 part] S = some (.agg #[.slice none 0 0, .int .i64 0], S') ∧ Held S S' 2 := by
  have w2 := wrap_cut (n := 0) (l := 0) (Nat.le_refl _) (by omega) part
  have hc0 : cutN 0 0 part = 0 := Nat.le_zero.mp (cutN_le (Nat.le_refl 0) part)
  rw [hc0] at w2
  have w1 := wrap_sub (n := 0) (l := 0) (Nat.le_refl _) (by omega)
  simp at w1 w2
  obtain ⟨F1, S1, a1, a2, a3, a4, a5, a6, a7, a8⟩ : ∃ F1 S1, evOps C [⟨(some 2), none, .box 81 2 (.tmp 0)⟩, ⟨(some 4), none, .new 81 2 [.slice none 0 0, .int .i64 0]⟩] (AF.enter 22 [.agg #[.slice none 0 0, .int .i64 0], .int .i64 part]) S = some (F1, S1) ∧ F1.n = 22 ∧ F1.get 1 = .int .i64 part ∧ F1.get 2 = .pointer (some ⟨S.next, 0, none⟩) ∧ F1.get 4 = .pointer (some ⟨S.next + 1, 0, none⟩) ∧ Held S S1 2 ∧
      S1.raw S.next = some ⟨[.slice none 0 0, .int .i64 0], 81, 2, S.next, 0, false⟩ ∧ S1.raw (S.next + 1) = some ⟨[.slice none 0 0, .int .i64 0], 81, 2, S.next + 1, 0, false⟩ := by
    refine ⟨_, _, by simp [evOps, evOper, evStep, EOp.run, AF.ev, put1, AF.dst, AF.enter, AF.get, AF.put, getL, putL, isBad, cellsOf]; exact ⟨rfl, rfl⟩, rfl, rfl, rfl, rfl, (held_new S _ 81 2).trans (held_new _ [.slice none 0 0, .int .i64 0] 81 2), ?_, AW.raw_new_same _ _ _ _⟩
    exact raw_new_old (by show S.next ≠ S.next + 1; omega) (by show S.next ≠ S.next + 1; omega) (AW.raw_new_same S _ 81 2) _ _ _
  obtain ⟨F2, b1, b2, b3, b4⟩ : ∃ F2, evOps C [⟨(some 5), none, .fad 0 (.tmp 2)⟩, ⟨(some 6), none, .ld none (.tmp 5)⟩, ⟨(some 7), none, .fad 1 (.tmp 2)⟩, ⟨(some 8), none, .ld none (.tmp 7)⟩, ⟨(some 9), none, .mov (.tmp 1)⟩, ⟨(some 10), none, .fad 0 (.tmp 2)⟩, ⟨(some 11), none, .ld none (.tmp 10)⟩, ⟨(some 12), none, .len false (.tmp 11)⟩, ⟨(some 13), none, .fad 1 (.tmp 2)⟩, ⟨(some 14), none, .ld none (.tmp 13)⟩, ⟨(some 15), none, .bin .sub (.tmp 12) (.tmp 14)⟩,
      ⟨(some 16), none, .mn [.tmp 9, .tmp 15]⟩, ⟨(some 17), none, .mx [.const (.int .i64 0), .tmp 16]⟩, ⟨(some 18), none, .bin .add (.tmp 8) (.tmp 17)⟩, ⟨(some 19), none, .slV 1 (.tmp 6) none (some (.tmp 18)) none⟩, ⟨(some 20), none, .fad 0 (.tmp 2)⟩, ⟨none, none, .st 1 (.tmp 20) (.tmp 19)⟩] F1 S1 = some (F2, S1.put S.next ⟨[.slice none 0 0, .int .i64 0], 81, 2, S.next, 0, false⟩ [.slice none 0 0, .int .i64 0]) ∧ F2.n = 22 ∧ F2.get 2 = .pointer (some ⟨S.next, 0, none⟩) ∧ F2.get 4 = .pointer (some ⟨S.next + 1, 0, none⟩) := by
    refine ⟨_, by simp [evOps, evOper, evStep, EOp.run, AF.ev, put1, AF.dst, a2, a3, a4, a5, AW.ldV, AW.cell, a7, isBad, binV, iop, w1, mmV, mstep, flat, scalar, w2, oint, cutB, cellsOf, cellOk, rowOk]; rfl, by simp [a2], by simp [a4], by simp [a5]⟩
  have c1 := AW.raw_put_same a7 [.slice none 0 0, .int .i64 0]
  have c2 := raw_put_ne (by omega) (by show S.next + 1 ≠ S.next; omega) a8 (d := S.next) (r := ⟨[.slice none 0 0, .int .i64 0], 81, 2, S.next, 0, false⟩) [.slice none 0 0, .int .i64 0]
  have c3 := held_put_new a6 (Nat.le_refl S.next) (r := ⟨[.slice none 0 0, .int .i64 0], 81, 2, S.next, 0, false⟩) (Nat.le_refl S.next) [.slice none 0 0, .int .i64 0]
  generalize S1.put S.next ⟨[.slice none 0 0, .int .i64 0], 81, 2, S.next, 0, false⟩ [.slice none 0 0, .int .i64 0] = S2 at *
  have c4 := held_put_new c3 (d := S.next + 1) (by omega) (r := ⟨[.slice none 0 0, .int .i64 0], 81, 2, S.next + 1, 0, false⟩) (by show S.next ≤ S.next + 1; omega) [.slice none 0 0, .int .i64 0]
  have c5 := AW.raw_put_same c2 [.slice none 0 0, .int .i64 0]
  refine ⟨_, ?_, c4⟩
  unfold Raw.aged at c1
  have e1 : evCode C k e59.body (AF.enter 22 [.agg #[.slice none 0 0, .int .i64 0], .int .i64 part]) S = some (.ret, (F2.put 21 (.agg #[.slice none 0 0, .int .i64 0])), S2.put (S.next + 1) ⟨[.slice none 0 0, .int .i64 0], 81, 2, S.next + 1, 0, false⟩ [.slice none 0 0, .int .i64 0]) := by
    unfold e59
    simp only [evCode, a1, thenN, b1]
    simp [evOps, evOper, evStep, EOp.run, AF.ev, put1, AF.dst, b2, b3, b4, AW.ldV, AW.row, c1, c2, rowOk, isBad, cellsOf, cellOk]
  unfold evFn finish
  rw [show e59.ntmps = 22 from rfl, e1]
  simp [e59, resV, b4, AW.ldV, AW.row, c5, Raw.aged, rowOk, isBad, tupV]

def fileOk (S : AW) (v : Value) : Bool := match v with
  | .agg cs => match cs.toList with
    | [.slice (some ⟨i, _, none⟩) n c, .int .i64 l] => decide (0 ≤ l) && decide (l.toNat ≤ n) && decide (n ≤ c) && decide (n < 4611686018427387904) && (match S.raw i with | some r => r.es == 1 | none => false)
    | [.slice none 0 0, .int .i64 l] => decide (l = 0)
    | _ => false
  | _ => false
def cutV (part : Int) (v : Value) : Value := match v with
  | .agg cs => match cs.toList with
    | [.slice (some a) n c, .int .i64 l] => .agg #[.slice (some a) (cutN n l.toNat part) c, .int .i64 l]
    | _ => v
  | _ => v
theorem fileOk_inv {S : AW} {v : Value} (h : fileOk S v = true) : (∃ i o n c l r, v = .agg #[.slice (some ⟨i, o, none⟩) n c, .int .i64 (l : Nat)] ∧ S.raw i = some r ∧ r.es = 1 ∧ l ≤ n ∧ n ≤ c ∧ n < 4611686018427387904 ∧ ∀ part, cutV part v = .agg #[.slice (some ⟨i, o, none⟩) (cutN n l part) c, .int .i64 (l : Nat)]) ∨
    (v = .agg #[.slice none 0 0, .int .i64 0] ∧ ∀ part, cutV part v = v) := by
  unfold fileOk at h
  split at h
  · rename_i cs
    split at h
    · rename_i i o n c l e
      left
      have : cs = #[.slice (some ⟨i, o, none⟩) n c, .int .i64 l] := Array.toList_inj.mp e
      subst this
      simp only [Bool.and_eq_true, decide_eq_true_eq] at h
      obtain ⟨⟨⟨⟨h0, h1⟩, h2⟩, h3⟩, h4⟩ := h
      split at h4
      · rename_i r hr
        have hll : ((l.toNat : Nat) : Int) = l := Int.toNat_of_nonneg h0
        refine ⟨i, o, n, c, l.toNat, r, by rw [hll], hr, by simpa using h4, h1, h2, h3, fun part => ?_⟩
        rw [hll]
        rfl
      · cases h4
    · rename_i l e
      right
      have : cs = #[.slice none 0 0, .int .i64 l] := Array.toList_inj.mp e
      subst this
      have := of_decide_eq_true h
      subst this
      exact ⟨rfl, fun part => rfl⟩
    · cases h
  · cases h
theorem fileOk_two {S : AW} {v : Value} (h : fileOk S v = true) : ∃ x y, v = .agg #[x, y] ∧ isBad x = false ∧ isBad y = false ∧ cellOk x = true ∧ cellOk y = true := by
  rcases fileOk_inv h with ⟨i, o, n, c, l, r, rfl, _⟩ | ⟨rfl, _⟩
  · exact ⟨_, _, rfl, rfl, rfl, rfl, rfl⟩
  · exact ⟨_, _, rfl, rfl, rfl, rfl, rfl⟩
/-- What a crash leaves of a file, wherever memory has come to. -/
theorem cut_ok (C : Callee) (k : Nat) {S S1 : AW} (hS : ∀ i r, S.raw i = some r → S1.raw i = some r ∧ i < S1.next ∧ r.fam < S1.next) {v : Value} (h : fileOk S v = true) (part : Int) : ∃ S', evFn C k e59 [v, .int .i64 part] S1 = some (cutV part v, S') ∧ Held S1 S' 2 := by
  rcases fileOk_inv h with ⟨i, o, n, c, l, r, hv, hr, h1, h2, h3, h4, h5⟩ | ⟨hv, h5⟩
  · rw [h5, hv]
    exact cut_ev C k (hS i r hr).1 (hS i r hr).2.1 (hS i r hr).2.2 h1 h2 h3 h4
  · rw [h5, hv]
    exact cut_ev0 C k
end Go.Proofs.Ythclmjelknibhaa.Ev
/- What a crash leaves of the disk: the loop. -/
namespace Go.Proofs.Ythclmjelknibhaa.Ev
open Go Go.RowKit
set_option linter.unusedVariables false
set_option linter.unusedSimpArgs false

def cutC : Callee := evF (fun f => if f = 59 then some e59 else none) (fun _ _ _ => none) 2
theorem cutC_ok (h : Try.prog.follows .mixedOrders = true) : COk Try.prog cutC :=
  evF_ok h (fun f ef hf => by
    split at hf
    · rename_i e; simp only [Option.some.injEq] at hf; subst hf; rw [e]; exact k59
    · cases hf) (fun _ _ _ _ _ _ _ _ _ _ _ h => by cases h) 2
theorem cutC_ev (args : List Value) (S : AW) : cutC 59 args S = evFn (evF (fun f => if f = 59 then some e59 else none) (fun _ _ _ => none) 1) 1 e59 args S := rfl
def xCrash (args : List Value) (S : AW) : Option (Value × AW) :=
  match args with
  | [.pointer none, .int .i64 _] => some (.tuple #[], S)
  | [.pointer (some ⟨d, 0, none⟩), .int .i64 part] => match S.raw d with
    | some ⟨[v0, .map (some m), v2, v3, v4, v5], el, es, fam, gen, false⟩ => match S.mapv m with
      | some fs => if (fs.all fun p => fileOk S p.2) && keysOk fs && !isBad v2 && !isBad v5 then
          let X := (S.putMap m (fs.map fun p => (p.1, cutV part p.2)) (S.bir m))
          let r : Raw := ⟨[v0, .map (some m), v2, v3, v4, v5], el, es, fam, gen, false⟩
          let c1 := [v0, .map (some m), v2, v3, v4, .bool true]
          some (.tuple #[], { (X.put d r c1).put d (r.aged X c1) [v0, .map (some m), .bool false, v3, v4, .bool true] with next := S.next + (1 + 3 * fs.length) }) else none
      | none => none
    | _ => none
  | _ => none
theorem crash_ok (hmx : Try.prog.follows .mixedOrders = true) (n : Nat) {W0 : Fz} {ρ : Ren} {S : AW} {w : World} (hw : RelW W0 ρ S w) {args : List Value} {args' : Array Value} (ha : ARel ρ args.toArray args') {v : Value} {S' : AW} (h : xCrash args S = some (v, S')) :
    (callFunc 22 args').run Try.prog w = .ok (.enter 22 args') w ∧ Calls Try.prog 22 args' w fun e w' => ∃ ρ' v', Grow S.next S'.next ρ ρ' ∧ e = .returned v' ∧ VRel ρ' v v' ∧ RelW W0 ρ' S' w' := by
  refine rngF_ok hmx (cutC_ok hmx) n k22 hw ha ?_
  have hl := hw.lt'
  unfold xCrash at h
  split at h
  · simp only [Option.some.injEq, Prod.mk.injEq] at h
    obtain ⟨rfl, rfl⟩ := h
    simp [RunR, r22, goPre, evCode, evOps, evOper, evStep, EOp.run, AF.ev, put1, AF.dst, thenN, AF.enter, AF.get, AF.put, getL, putL, nilV, flat, scalar, resV, tupV, Fg.refl]
  · rename_i d part
    split at h
    · rename_i v0 m v2 v3 v4 v5 el esz fam gen hd
      split at h
      · rename_i es hes
        split at h
        · rename_i hq
          simp only [Option.some.injEq, Prod.mk.injEq] at h
          obtain ⟨rfl, rfl⟩ := h
          simp only [Bool.and_eq_true, List.all_eq_true, Bool.not_eq_true'] at hq
          obtain ⟨⟨⟨hfl, hko⟩, hv2⟩, hv5⟩ := hq
          have h1 : S.cell d 1 = some (.map (some m)) := cell_of hd rfl rfl
          obtain ⟨hd1, hd2⟩ := AW.raw_some hd
          have hm1 := AW.mapv_some hes
          have hdm : d ≠ m := fun e => by rw [e, hm1] at hd1; cases hd1
          have hmn := hl.obj m _ hm1
          have hdn := hl.obj d _ hd1
          have hfn := hl.fam d _ hd1
          obtain ⟨F1, e1, e2, e3, e4⟩ : ∃ F1, goPre cutC n r22.k.pre (AF.enter r22.ntmps [.pointer (some ⟨d, 0, none⟩), .int .i64 part]) S = some (.normal, F1, S) ∧ F1.n = 32 ∧ F1.get 0 = .pointer (some ⟨d, 0, none⟩) ∧ F1.get 1 = .int .i64 part := by
            refine ⟨_, by simp [r22, goPre, evCode, evOps, evOper, evStep, EOp.run, AF.ev, put1, AF.dst, thenN, AF.enter, AF.get_put, AF.get, AF.put, getL, putL, nilV, flat, scalar, AW.ldV]; rfl, rfl, rfl, rfl⟩
          obtain ⟨F2, e5, e6, e7, e8, e9⟩ : ∃ F2, evOps cutC r22.k.el0 F1 S = some (F2, S) ∧ F2.n = 32 ∧ F2.get 0 = .pointer (some ⟨d, 0, none⟩) ∧ F2.get 1 = .int .i64 part ∧ F2.ev r22.k.m = .map (some m) := by
            refine ⟨_, by simp [r22, evOps, evOper, evStep, EOp.run, AF.ev, put1, AF.dst, e2, e3, AW.ldV, h1]; rfl, ?_, ?_, ?_, ?_⟩ <;> simp [r22, e2, e3, e4, AF.ev]
          unfold RunR
          rw [e1]
          refine ⟨F2, S, es.length, m, S.bir m, fun done F S' => F.n = 32 ∧ F.get 12 = .pointer (some ⟨S.next, 0, none⟩) ∧ F.get 0 = .pointer (some ⟨d, 0, none⟩) ∧ F.get 1 = .int .i64 part ∧ Held (S.putMap m (updE (cutV part) done es) (S.bir m)) S' (1 + 3 * done.length), e5, ⟨e9, by rw [e6]; decide, ?_, ?_, ?_, ?_⟩, ?_⟩
          · refine ⟨by simp [e6], by simp [r22], by simp [r22, e7], by simp [r22, e8], ?_⟩
            rw [updE_nil]
            exact (held_same hes).trans (Held.dead S)
          · rintro done F S1 ⟨i1, i2, i3, i3', i4⟩
            have := i4.mapv (lt_putMap hl hmn _ _) (mapv_putMap S m _ _)
            exact ⟨⟨_, this, updE_len _ _ _⟩, (i4.bir m hmn).trans (by rw [bir_putMap, if_pos rfl]), by rw [i1]; decide, by rw [i1]; decide, by rw [i1]; decide, i2⟩
          · rintro done F S1 F' ⟨i1, i2, i3, i3', i4⟩ hx hn
            exact ⟨hn.trans i1, (hx 12 (by decide) (by decide) (by decide)).trans i2, (hx 0 (by decide) (by decide) (by decide)).trans i3, (hx 1 (by decide) (by decide) (by decide)).trans i3', i4⟩
          · rintro done F S1 i es2 e ⟨i1, i2, i3, i3', i4⟩ hid hm2 he hte
            have hmv := i4.mapv (lt_putMap hl hmn _ _) (mapv_putMap S m _ _)
            have : es2 = updE (cutV part) done es := by
              rw [hm2] at hmv
              exact Option.some.inj hmv
            subst this
            have he := updE_read (cutV part) hid he
            have hfo := hfl e (List.mem_of_getElem? he)
            obtain ⟨x, y, hf, hbx, hby, hcx, hcy⟩ := fileOk_two hfo
            have hte : F.get 15 = .tuple #[e.1, .agg #[x, y]] := by rw [← hf]; exact hte
            obtain ⟨F3, S2, b1, b2, b3, b4, b4', b5, b6, b7, b8⟩ : ∃ F3 S2, evOps cutC r22.k.el F S1 = some (F3, S2) ∧ F3.n = 32 ∧ F3.get 12 = .pointer (some ⟨S.next, 0, none⟩) ∧ F3.get 0 = .pointer (some ⟨d, 0, none⟩) ∧ F3.get 1 = .int .i64 part ∧ F3.get 4 = e.1 ∧ F3.get 5 = .pointer (some ⟨S1.next, 0, none⟩) ∧ Held S1 S2 1 ∧ S2.row S1.next 0 2 = some [x, y] := by
              refine ⟨_, _, by simp [r22, evOps, evOper, evStep, EOp.run, evCode, thenN, AF.ev, put1, AF.dst, i1, hte, cellsOf, AW.raw_new_same, rowOk, isBad, hcx, hcy]; rfl, by simp [i1], by simp [i2], by simp [i3], by simp [i3'], by simp, by simp, held_var S1 81 2 [.slice none 0 0, .int .i64 0] [x, y], ?_⟩
              unfold AW.row
              rw [AW.raw_put_same (AW.raw_new_same S1 _ 81 2)]
              simp [Raw.aged, rowOk, hbx, hby]
            have i5 := i4.trans b7
            have hlx : Lt (S.putMap m (updE (cutV part) done es) (S.bir m)) := lt_putMap hl hmn _ _
            have hrr : ∀ i r, S.raw i = some r → S2.raw i = some r ∧ i < S2.next ∧ r.fam < S2.next := fun i r hr => by
              obtain ⟨hr1, _⟩ := AW.raw_some hr
              have him : i ≠ m := fun e => by rw [e, hm1] at hr1; cases hr1
              have := hl.obj i _ hr1
              have := hl.fam i _ hr1
              have hnx : S2.next = S.next + (1 + 3 * done.length + 1) := i5.next
              exact ⟨i5.raw hlx ((raw_putMap him).trans hr), by omega, by omega⟩
            obtain ⟨S3, hcall, hh3⟩ := cut_ok (evF (fun f => if f = 59 then some e59 else none) (fun _ _ _ => none) 1) 1 hrr hfo part
            rw [← cutC_ev, hf] at hcall
            have hdc : S2.cell d 1 = some (.map (some m)) := i5.cell hlx (cell_of ((raw_putMap hdm).trans hd) rfl rfl)
            have i6 := i5.trans hh3
            have hdc3 : S3.cell d 1 = some (.map (some m)) := i6.cell hlx (cell_of ((raw_putMap hdm).trans hd) rfl rfl)
            have hmv3 := i6.mapv hlx (mapv_putMap S m _ _)
            have hmup := mup_upd (f := cutV part) hmv3 hko he (v := cutV part (.agg #[x, y])) (by rw [hf])
            obtain ⟨F4, d1, d2, d3, d4, d5⟩ : ∃ F4, evCode cutC n r22.k.er F3 S2 = some (.normal, F4, S3.putMap m (updE (cutV part) (i :: done) es) (S3.bir m)) ∧ F4.n = 32 ∧ F4.get 12 = .pointer (some ⟨S.next, 0, none⟩) ∧ F4.get 0 = .pointer (some ⟨d, 0, none⟩) ∧ F4.get 1 = .int .i64 part := by
              refine ⟨_, congrArg thenN (si_dra (by decide) rfl (by simp [flatD, DOper.ch, EOp.kind, pdOf, stillAll, addPd, evSI, evE, EOp.run, AF.ev, AF.dst, b2, b4, b4', b5, b6, AW.ldV, hdc, b8, hcall, hdc3, hmup, Pd.ok, readOk, veq, veq1]; rfl)), by simp [b2], by simp [b3], by simp [b4], by simp [b4']⟩
            refine ⟨F4, _, by unfold bodyR; rw [b1]; exact d1, d2, d3, d4, d5, ?_⟩
            have hb3 : S3.bir m = S.bir m := (i6.bir m hmn).trans (by rw [bir_putMap, if_pos rfl])
            rw [hb3]
            have := held_putMap i6 (updE (cutV part) (i :: done) es) (S.bir m)
            have hk : 1 + 3 * done.length + 1 + 2 = 1 + 3 * (i :: done).length := by simp only [List.length_cons]; omega
            rw [← hk]
            exact this
          · rintro done F S1 ⟨i1, i2, i3, i3', i4⟩ h1 h2 h3
            have hr : S1.raw d = some ⟨[v0, .map (some m), v2, v3, v4, v5], el, esz, fam, gen, false⟩ := i4.raw (lt_putMap hl hmn _ _) ((raw_putMap hdm).trans hd)
            have hr2 := AW.raw_put_same hr [v0, .map (some m), v2, v3, v4, .bool true]
            obtain ⟨F5, hz⟩ : ∃ F5, evCode cutC n r22.k.z F S1 = some (.normal, F5, (S1.put d ⟨[v0, .map (some m), v2, v3, v4, v5], el, esz, fam, gen, false⟩ [v0, .map (some m), v2, v3, v4, .bool true]).put d (Raw.aged ⟨[v0, .map (some m), v2, v3, v4, v5], el, esz, fam, gen, false⟩ S1 [v0, .map (some m), v2, v3, v4, .bool true]) [v0, .map (some m), .bool false, v3, v4, .bool true]) :=
              ⟨_, by simp [r22, evCode, evOps, evOper, evStep, EOp.run, AF.ev, put1, AF.dst, thenN, i1, i3, hr, hr2, flat, scalar, cellsOf, cellOk, rowOk, hv5, hv2, Raw.aged]; rfl⟩
            refine ⟨_, hz, by simp, [], by simp [r22, resV], rfl, ?_⟩
            have hlen := all_len h3 h1 h2
            rw [updE_all (cutV part) h1] at i4
            rw [hlen] at i4
            have hx := lt_putMap hl hmn (es.map fun p => (p.1, cutV part p.2)) (S.bir m)
            have hdx : (S.putMap m (es.map fun p => (p.1, cutV part p.2)) (S.bir m)).raw d = _ := (raw_putMap hdm).trans hd
            have hag : Raw.aged ⟨[v0, .map (some m), v2, v3, v4, v5], el, esz, fam, gen, false⟩ S1 [v0, .map (some m), v2, v3, v4, .bool true] = Raw.aged ⟨[v0, .map (some m), v2, v3, v4, v5], el, esz, fam, gen, false⟩ (S.putMap m (es.map fun p => (p.1, cutV part p.2)) (S.bir m)) [v0, .map (some m), v2, v3, v4, .bool true] := by
              unfold Raw.aged
              rw [i4.fam _ hfn]
            show Fg _ _
            simp only
            rw [hag]
            refine fg_ext (held_put (held_put i4 hdn hfn _) ?_ ?_ _) (lt_put (lt_put hx hdx _) (AW.raw_put_same hdx _) _)
            · exact hdn
            · exact hfn
        · cases h
      · cases h
    · cases h
  · cases h
end Go.Proofs.Ythclmjelknibhaa.Ev
