/- What is handed in: rows that are not the call's own. -/
import Derived.Test.YthclmjelknibhaaEvS
import Derived.ChangeSlices
import Derived.WideShapes
namespace Go.Proofs.Ythclmjelknibhaa.Ev
open Go Go.RowKit
set_option linter.unusedVariables false
set_option linter.constructorNameAsVariable false
set_option linter.unusedSimpArgs false
set_option linter.unusedSectionVars false

def AW.arg (S : AW) (c : List Value) (elem es : Nat) : AW :=
  { heap := (S.next, .cells ⟨c, elem, es, S.next, 0, true⟩) :: S.heap, fams := (S.next, ⟨false, 0, c.length⟩) :: S.fams, next := S.next + 1, bs := S.bs }
theorem AW.obj_arg (S : AW) (c : List Value) (elem es i : Nat) : (S.arg c elem es).obj i = if i = S.next then some (.cells ⟨c, elem, es, S.next, 0, true⟩) else S.obj i := rfl
theorem AW.fam_arg (S : AW) (c : List Value) (elem es i : Nat) : (S.arg c elem es).fam i = if i = S.next then ⟨false, 0, c.length⟩ else S.fam i := by
  show (look ((S.next, _) :: S.fams) i).getD _ = _
  unfold look
  split <;> rfl
theorem AW.raw_arg {S : AW} (hf : ∀ i r, S.obj i = some (.cells r) → r.fam < S.next) (c : List Value) (elem es : Nat) {i : Nat} (hi : i ≠ S.next) : (S.arg c elem es).raw i = S.raw i := by
  unfold AW.raw
  rw [AW.obj_arg, if_neg hi]
  cases e : S.obj i with
  | none => rfl
  | some o =>
    cases o with
    | map es => rfl
    | cells r =>
      have hf : (S.arg c elem es).fam r.fam = S.fam r.fam := by rw [AW.fam_arg, if_neg (by have := hf i r e; omega)]
      simp only [hf]
theorem AW.raw_arg_same (S : AW) (c : List Value) (elem es : Nat) : (S.arg c elem es).raw S.next = some ⟨c, elem, es, S.next, 0, true⟩ :=
  AW.raw_of (by rw [AW.obj_arg, if_pos rfl]) (by rw [AW.fam_arg, if_pos rfl]; exact Nat.le_refl _)
theorem AW.mapv_arg (S : AW) (c : List Value) (elem es : Nat) {i : Nat} (hi : i ≠ S.next) : (S.arg c elem es).mapv i = S.mapv i := by
  unfold AW.mapv; rw [AW.obj_arg, if_neg hi]
theorem AW.mapv_arg_same (S : AW) (c : List Value) (elem es : Nat) : (S.arg c elem es).mapv S.next = none := by
  unfold AW.mapv; rw [AW.obj_arg, if_pos rfl]
/-- A row that was there. -/
theorem RelW.arg {W : World} {ρ : Ren} {S : AW} (h : RelW (Fz.of W) ρ S W) (c : List Value) (elem es : Nat) {blk : Nat} {off : Nat} {C : Array Value} {F : Nat × Nat} (hb : W.heap[blk]? = some (.cells C elem F))
    (hc : ∀ (i : Nat) (v : Value), c[i]? = some v → isBad v = false → ∃ v', C[off + i]? = some v' ∧ VRel ρ v v') :
    RelW (Fz.of W) (ρ.add S.next ⟨blk, off, C.size, es⟩) (S.arg c elem es) W := by
  have hn := h.fresh S.next (Nat.le_refl _)
  have hle := Ren.le_add (ρ := ρ) ⟨blk, off, C.size, es⟩ hn
  have hblt : blk < W.heap.size := (Array.getElem?_eq_some_iff.mp hb).1
  have hrw : ∀ {i : Nat}, i ≠ S.next → (S.arg c elem es).raw i = S.raw i := fun hi => AW.raw_arg h.famLt c elem es hi
  refine ⟨h.below, fun i hi => ?_, fun i o ho => ?_, fun i r ho => ?_, fun i r ho => ?_, fun i p hp => ?_, fun i p r hp hr => ?_, ?_, fun i r hr hro => ?_, fun i p es' hp hm => ?_, ?_⟩
  · have hi' : S.next + 1 ≤ i := hi
    rw [Ren.add_other _ (by omega)]; exact h.fresh i (by omega)
  · rw [AW.obj_arg] at ho
    show i < S.next + 1
    split at ho
    · omega
    · have := h.objLt i o ho; omega
  · rw [AW.obj_arg] at ho
    show r.fam < S.next + 1
    split at ho
    · simp only [Option.some.injEq, AObj.cells.injEq] at ho; subst ho; show S.next < S.next + 1; omega
    · have := h.famLt i r ho; omega
  · rw [AW.obj_arg] at ho
    split at ho
    · simp only [Option.some.injEq, AObj.cells.injEq] at ho; subst ho; exact Nat.zero_le _
    · have e : (S.arg c elem es).fam r.fam = S.fam r.fam := by rw [AW.fam_arg, if_neg (by have := h.famLt i r ho; omega)]
      rw [e]; exact h.genLe i r ho
  · by_cases hi : i = S.next
    · subst hi; rw [Ren.add_same] at hp; simp only [Option.some.injEq] at hp; subst hp; exact hblt
    · rw [Ren.add_other _ hi] at hp; exact h.blk i p hp
  · by_cases hi : i = S.next
    · subst hi
      rw [Ren.add_same] at hp; simp only [Option.some.injEq] at hp; subst hp
      rw [AW.raw_arg_same] at hr; simp only [Option.some.injEq] at hr; subst hr
      refine ⟨rfl, C, F, hb, rfl, fun k v hk hbd => ?_, fun h => (by cases h), fun _ => hblt⟩
      obtain ⟨v', e1, e2⟩ := hc k v hk hbd
      exact ⟨off + k, v', by simp; omega, e1, e2.mono hle⟩
    · rw [Ren.add_other _ hi] at hp
      rw [hrw hi] at hr
      exact (h.cells i p r hp hr).mono hle rfl
  · intro i j p q r s hij hp hq hr hs hro hso hb
    by_cases hi : i = S.next
    · subst hi
      rw [AW.raw_arg_same] at hr; simp only [Option.some.injEq] at hr; subst hr; cases hro
    · by_cases hj : j = S.next
      · subst hj
        rw [AW.raw_arg_same] at hs; simp only [Option.some.injEq] at hs; subst hs; cases hso
      · rw [Ren.add_other _ hi] at hp
        rw [Ren.add_other _ hj] at hq
        rw [hrw hi] at hr
        rw [hrw hj] at hs
        obtain ⟨e1, e2, e3⟩ := h.apart i j p q r s hij hp hq hr hs hro hso hb
        refine ⟨e1, ?_, e3⟩
        rw [AW.fam_arg, if_neg (by have := h.famLt i r (AW.raw_some hr).1; omega)]
        exact e2
  · by_cases hi : i = S.next
    · subst hi
      rw [AW.raw_arg_same] at hr; simp only [Option.some.injEq] at hr; subst hr; cases hro
    · rw [hrw hi] at hr
      rw [AW.fam_arg, if_neg (by have := h.famLt i r (AW.raw_some hr).1; omega)]
      exact h.ext i r hr hro
  · by_cases hi : i = S.next
    · subst hi; rw [AW.mapv_arg_same] at hm; cases hm
    · rw [Ren.add_other _ hi] at hp
      rw [AW.mapv_arg _ _ _ _ hi] at hm
      obtain ⟨h1, ms, ck, h2, h3⟩ := h.maps i p es' hp hm
      exact ⟨h1, ms, ck, h2, h3.1.mono hle, h3.2⟩
  · intro i j p q es' fs hij hp hq hm hn'
    have hi : i ≠ S.next := by rintro rfl; rw [AW.mapv_arg_same] at hm; cases hm
    have hj : j ≠ S.next := by rintro rfl; rw [AW.mapv_arg_same] at hn'; cases hn'
    rw [Ren.add_other _ hi] at hp
    rw [Ren.add_other _ hj] at hq
    rw [AW.mapv_arg _ _ _ _ hi] at hm
    rw [AW.mapv_arg _ _ _ _ hj] at hn'
    exact h.mapsApart i j p q es' fs hij hp hq hm hn'
def FAW.arg (F : FAW) (c : List FV) (elem es : Nat) : FAW := ⟨.cell F.x c elem es F.x true F.h, .fam F.x false c.length F.fs, F.x + 1⟩
theorem UR.arg {F : FAW} {S : AW} (h : UR F S) (c : List FV) (elem es : Nat) : UR (F.arg c elem es) (S.arg (toVs c) elem es) := by
  have hn := h.next
  have hraw : ∀ i c' e s m o, RowOk S i c' e s m o → i < S.next → RowOk (S.arg (toVs c) elem es) i c' e s m o := by
    intro i c' e s m o hr hi
    obtain ⟨g, hr⟩ := hr.raw
    obtain ⟨h1, h2⟩ := AW.raw_some hr
    refine ⟨_, AW.raw_of (by rw [AW.obj_arg, if_neg (by omega)]; exact h1) ?_, rfl, rfl, rfl, rfl, rfl⟩
    rw [AW.fam_arg]
    split
    · exact Nat.zero_le _
    · exact h2
  refine ⟨by show F.x + 1 = S.next + 1; omega, ⟨?_, by show F.x < S.next + 1; omega, h.h.fresh (by omega), h.h.mono (Nat.le_succ _) hraw fun i es' hm hi => ?_⟩, ⟨⟨0, ?_⟩, by show F.x < S.next + 1; omega, h.f.fresh (by omega), h.f.mono (Nat.le_succ _) fun i m e hm hi => ?_⟩⟩
  · refine ⟨_, by rw [hn]; exact AW.raw_arg_same S (toVs c) elem es, rfl, rfl, rfl, by rw [hn], rfl⟩
  · rw [AW.mapv_arg _ _ _ _ (by omega)]; exact hm
  · rw [AW.fam_arg, if_pos (by omega), toVs_length]
  · obtain ⟨g, hg⟩ := hm
    exact ⟨g, by rw [AW.fam_arg, if_neg (by omega)]; exact hg⟩
theorem row_arg (F : FAW) (c : List FV) (elem es : Nat) (j : Nat) : (F.arg c elem es).row j = if j = F.x then some (c, elem, es, F.x, true) else F.row j := rfl
theorem fam_arg (F : FAW) (c : List FV) (elem es : Nat) (j : Nat) : (F.arg c elem es).fam j = if j = F.x then some (false, c.length) else F.fam j := rfl
theorem mp_arg (F : FAW) (c : List FV) (elem es : Nat) (j : Nat) : (F.arg c elem es).mp j = F.mp j := rfl
theorem Wf.arg {F : FAW} (h : Wf F) (c : List FV) (elem es : Nat) : Wf (F.arg c elem es) := by
  have hx : (F.arg c elem es).x = F.x + 1 := rfl
  refine ⟨⟨Nat.lt_succ_self _, h.own.mono (Nat.le_succ _)⟩, fun j r e => ?_, fun j r e => ?_, fun j r e => ?_⟩
  · rw [row_arg] at e; rw [hx]
    split at e
    · omega
    · have := h.row j r e; omega
  · rw [fam_arg] at e; rw [hx]
    split at e
    · omega
    · have := h.fam j r e; omega
  · rw [mp_arg] at e; rw [hx]
    have := h.mp j r e; omega
theorem Std.arg {F : FAW} (h : Wf F) (c : List FV) (elem es : Nat) (A B : Nat → Prop) : Std F (F.arg c elem es) A B :=
  ⟨fun j r _ e => by rw [row_arg, if_neg (by have := h.row j r e; omega)]; exact e, fun j r _ e => by rw [fam_arg, if_neg (by have := h.fam j r e; omega)]; exact e, fun j r e => by rw [mp_arg]; exact e, Nat.le_succ _⟩
theorem Wf.empty : Wf ⟨.nil, .nil, 0⟩ := ⟨trivial, fun j r h => by simp [FAW.row, getH] at h, fun j r h => by simp [FAW.fam, getFm] at h, fun j r h => by simp [FAW.mp, getMp] at h⟩

/-- A slice whose elements are known. -/
def Sl (F : FAW) (v : FV) (cs : List FV) : Prop :=
  (v = .nl ∧ cs = []) ∨ ∃ i o c el m ro cells, v = .l i o cs.length c ∧ F.row i = some (cells, el, 1, m, ro) ∧ (cells.drop o).take cs.length = cs ∧ o + cs.length ≤ cells.length
theorem Sl.len {F : FAW} {v : FV} {cs : List FV} (h : Sl F v cs) (G : FAW) (f : KU) : uLen false v G f = f (.n cs.length) G := by
  rcases h with ⟨rfl, rfl⟩ | ⟨i, o, c, el, m, ro, cells, rfl, _⟩ <;> rfl
theorem Sl.at {cells cs : List FV} {o k : Nat} {w : FV} (h : (cells.drop o).take cs.length = cs) (hk : cs[k]? = some w) : cells[o + k]? = some w := by
  rw [← h, List.getElem?_take] at hk
  split at hk
  · rw [List.getElem?_drop] at hk; exact hk
  · cases hk
theorem Sl.get {F : FAW} {v : FV} {cs : List FV} (h : Sl F v cs) {k : Nat} {w : FV} (hk : cs[k]? = some w) (hw : Fi w) (f : KU) : (uIad 1 v (.n k) F fun v0 S => uLd none v0 S f) = f w F := by
  obtain ⟨hlt, _⟩ := List.getElem?_eq_some_iff.mp hk
  rcases h with ⟨rfl, rfl⟩ | ⟨i, o, c, el, m, ro, cells, rfl, hr, ht, _⟩
  · simp at hk
  · rw [uIad_l _ _ hlt]
    exact uLd_row f hr (by rw [Nat.mul_one]; exact Sl.at ht hk) hw
theorem Sl.getb {F : FAW} {v : FV} {cs : List FV} (h : Sl F v cs) {k : Nat} {w : FV} (hk : cs[k]? = some w) (hw : Fi w) (f : KU) : (uIad 1 v (.b k) F fun v0 S => uLd none v0 S f) = f w F := by
  obtain ⟨hlt, _⟩ := List.getElem?_eq_some_iff.mp hk
  rcases h with ⟨rfl, rfl⟩ | ⟨i, o, c, el, m, ro, cells, rfl, hr, ht, _⟩
  · simp at hk
  · rw [uIad_lb _ _ hlt]
    exact uLd_row f hr (by rw [Nat.mul_one]; exact Sl.at ht hk) hw
theorem Sl.std {F F' : FAW} {v : FV} {cs : List FV} (h : Sl F v cs) {A B : Nat → Prop} (hs : Std F F' A B) (hA : ∀ i r e m o, F.row i = some (r, e, 1, m, o) → ¬ A i) : Sl F' v cs := by
  rcases h with h | ⟨i, o, c, el, m, ro, cells, h1, h2, h3, h4⟩
  · exact .inl h
  · exact .inr ⟨i, o, c, el, m, ro, cells, h1, hs.row _ _ (hA _ _ _ _ _ h2) h2, h3, h4⟩
theorem Sl.stdn {F F' : FAW} {v : FV} {cs : List FV} (h : Sl F v cs) {B : Nat → Prop} (hs : Std F F' (fun _ => False) B) : Sl F' v cs := h.std hs (fun _ _ _ _ _ _ h => h)
theorem SlB.sl {F : FAW} {v : FV} {el : Nat} {cs : List FV} {m : Nat} (h : SlB F v el cs m) : Sl F v cs := by
  rcases h with ⟨h1, h2⟩ | ⟨_, i, mu, h2, h3, _⟩
  · exact .inl ⟨h2, h1⟩
  · exact .inr ⟨i, 0, _, el, m, false, cs, h2, h3, by simp, by simp⟩

/-- A slice of numbers that is handed in: its elements. -/
def SliceArg (W : World) (k : IntKind) (a : Option Addr) (len cap : Nat) (zs : List Int) : Prop :=
  (a = none ∧ len = 0 ∧ cap = 0 ∧ zs = []) ∨ ∃ x C elem F, a = some x ∧ x.spot = none ∧ W.heap[x.block]? = some (.cells C elem F) ∧ len ≤ cap ∧ zs.length = len ∧ (0 < cap → x.off + cap ≤ C.size) ∧
    (∀ (i : Nat) (z : Int), zs[i]? = some z → C[x.off + i]? = some (.int k z)) ∧ ∀ n ∈ zs, (Lit.int k n).wf = true
theorem SliceArg.zs_len {W : World} {k : IntKind} {a : Option Addr} {len cap : Nat} {zs : List Int} (h : SliceArg W k a len cap zs) : zs.length = len := by
  rcases h with ⟨_, h, _, h2⟩ | ⟨x, C, elem, F, _, _, _, _, h, _⟩
  · rw [h, h2]; rfl
  · exact h
theorem Addr.add_off (x : Addr) (hs : x.spot = none) (i : Nat) : x.add i = ⟨x.block, x.off + i, none⟩ := by
  unfold Addr.add
  split
  · rename_i h; subst h; cases x; simp_all
  · rfl
theorem sliceArg_of {P : Program} {W : World} {t e : TypeId} {base : Nat} {k : IntKind} {x : Addr} {len cap : Nat} {zs : List Int} (ht : P.underlying t = some (.slice e)) (hok : Value.okWide P W .any base t (.slice (some x) len cap)) (hl : len ≤ cap) (hz : zs.length = cap)
    (hcell : ∀ i, i < zs.length → W.cell? (x.add i) = some (.int k (zs.getD i 0))) (hwz : ∀ n ∈ zs, (Lit.int k n).wf = true) : SliceArg W k (some x) len cap (zs.take len) := by
  right
  simp only [Value.okWide, ht, Cell.okWide, Cell.ok] at hok
  obtain ⟨_, _, _, hsp, row, n, hsh, _⟩ := hok
  unfold World.shape? at hsh
  split at hsh
  · rename_i C elem F hb
    have hC : ∀ (i : Nat) (z : Int), zs[i]? = some z → C[x.off + i]? = some (.int k z) := by
      intro i z hi
      have hlt := (List.getElem?_eq_some_iff.mp hi).1
      have := hcell i hlt
      rw [Addr.add_off x hsp] at this
      unfold World.cell? at this
      rw [hb] at this
      simp only [Option.isSome_none] at this
      have e : zs.getD i 0 = z := by simp [List.getD, hi]
      rw [e] at this
      simpa using this
    refine ⟨x, C, elem, F, rfl, hsp, hb, hl, by rw [List.length_take]; omega, fun h0 => ?_, fun i z hi => ?_, fun n hn => hwz n (List.mem_of_mem_take hn)⟩
    · have h1 : zs[cap - 1]? = some zs[cap - 1] := List.getElem?_eq_getElem (by omega)
      have := (Array.getElem?_eq_some_iff.mp (hC _ _ h1)).1
      omega
    · rw [List.getElem?_take] at hi
      split at hi
      · exact hC i z hi
      · cases hi
  · cases hsh
/-- Numbers in the plain form. -/
def numV (k : IntKind) (z : Int) : FV := ofV0 (.int k z)
theorem numV_to (k : IntKind) (z : Int) : toV (numV k z) = .int k z := toV_ofV0 _
theorem numV_u8 {z : Int} (h : (Lit.int .u8 z).wf = true) : numV .u8 z = .b z.toNat ∧ z.toNat < 256 := by
  have : 0 ≤ z ∧ z ≤ 255 := by
    simp [Lit.wf, IntKind.min, IntKind.max, IntKind.bits, IntKind.signed] at h
    omega
  obtain ⟨m, rfl⟩ := Int.eq_ofNat_of_zero_le this.1
  exact ⟨rfl, by simp; omega⟩
theorem numV_fi (k : IntKind) (z : Int) : Fi (numV k z) := by
  unfold numV ofV0
  split <;> first | exact Fi.n _ | exact Fi.b _ | exact Fi.i _ _ | (rename_i h; cases h; done) | (rename_i h _ _ _ _ _ _ _ _ _; exact absurd rfl (h k z))
theorem arg_slice {W : World} {ρ : Ren} {S : AW} {F : FAW} (h : RelW (Fz.of W) ρ S W) (u : UR F S) (hw : Wf F) {k : IntKind} {a : Option Addr} {len cap : Nat} {zs : List Int} (ha : SliceArg W k a len cap zs) :
    ∃ ρ' S' F' fv, RelW (Fz.of W) ρ' S' W ∧ UR F' S' ∧ ρ.le ρ' ∧ VRel ρ' (toV fv) (.slice a len cap) ∧ Sl F' fv (zs.map (numV k)) ∧ Std F F' (fun _ => False) (fun _ => False) ∧ Wf F' := by
  rcases ha with ⟨rfl, rfl, rfl, rfl⟩ | ⟨x, C, elem, G, rfl, hsp, hb, hl, hz, hc, hcell, hwz⟩
  · exact ⟨ρ, S, F, .nl, h, u, Ren.le_refl _, .nils, .inl ⟨rfl, rfl⟩, ⟨fun _ _ _ h => h, fun _ _ _ h => h, fun _ _ h => h, Nat.le_refl _⟩, hw⟩
  · have h1 := h.arg (toVs (zs.map (numV k))) elem 1 (off := x.off) hb (fun i v hi hbad => by
      rw [toVs_map, List.getElem?_map, List.getElem?_map] at hi
      cases hzi : zs[i]? with
      | none => rw [hzi] at hi; cases hi
      | some z =>
        rw [hzi] at hi
        simp only [Option.map_some, Option.some.injEq] at hi
        subst hi
        refine ⟨.int k z, hcell i z hzi, ?_⟩
        rw [numV_to]
        exact .int _ _)
    refine ⟨_, _, F.arg (zs.map (numV k)) elem 1, .l F.x 0 len len, h1, u.arg _ _ _, Ren.le_add _ (h.fresh _ (Nat.le_refl _)), ?_, .inr ⟨F.x, 0, len, elem, F.x, true, zs.map (numV k), by rw [List.length_map, hz], by rw [row_arg, if_pos rfl], by rw [List.drop_zero, List.take_length], by simp⟩, Std.arg hw _ _ _ _ _, hw.arg _ _ _⟩
    have : VRel (ρ.add S.next ⟨x.block, x.off, C.size, 1⟩) (.slice (some ⟨S.next, 0, none⟩) len len) (.slice (some x) len cap) :=
      .slice (p := ⟨x.block, x.off, C.size, 1⟩) (Ren.add_same _ _ _) (Nat.le_refl _) hl (fun h0 => ⟨x.off, by cases x; simp_all, by simp, by have := hc h0; simp; omega⟩)
    rw [← u.next] at this ⊢
    simpa only [toV] using this
theorem uSlow_n {op : BinOp} {x y : FV} {v : Value} (h : binV op (toV x) (toV y) = some v) (F : FAW) (f : KU) : uSlow op x y F f = f (ofV v) F := by
  unfold uSlow
  rw [h]; rfl
theorem uRem_bb (q : Bool) (a b : Nat) (hb : b ≠ 0) (F : FAW) (f : KU) : uQuo q .rem (.b a) (.b b) F f = f (.b (a % b)) F := by
  have e : uQuo q .rem (.b a) (.b b) F f = uSlow .rem (.b a) (.b b) F f := rfl
  have h : binV .rem (toV (.b a)) (toV (.b b)) = some (.int .u8 (.ofNat (a % b))) := by
    have hb' : ¬ (Int.ofNat b = 0) := by simpa using hb
    simp only [toV, binV, iop, if_true, if_neg hb']
    rfl
  rw [e, uSlow_n h]; rfl
theorem wrap_u8 {m : Nat} (h : m < 256) : IntKind.wrap .u8 (m : Int) = (m : Int) := by
  simp only [IntKind.wrap, IntKind.bits, IntKind.signed]
  simp
  omega
theorem uDiv_bb (q : Bool) (a b : Nat) (ha : a < 256) (hb : b ≠ 0) (F : FAW) (f : KU) : uQuo q .quo (.b a) (.b b) F f = f (.b (a / b)) F := by
  have e : uQuo q .quo (.b a) (.b b) F f = uSlow .quo (.b a) (.b b) F f := rfl
  have h : binV .quo (toV (.b a)) (toV (.b b)) = some (.int .u8 (.ofNat (a / b))) := by
    have hb' : ¬ (Int.ofNat b = 0) := by simpa using hb
    have e2 : (Int.ofNat a).tdiv (Int.ofNat b) = ((a / b : Nat) : Int) := rfl
    simp only [toV, binV, iop, if_true, if_neg hb', e2]
    rw [wrap_u8 (Nat.lt_of_le_of_lt (Nat.div_le_self a b) ha)]
    rfl
  rw [e, uSlow_n h]; rfl
/-- What a slice hands on. -/
theorem Sl.src {F : FAW} {v : FV} {cs : List FV} (h : Sl F v cs) (hcs : ∀ c ∈ cs, Fi c) (g : Nat → List FV → RU) : srcU F 1 v g = g cs.length cs := by
  rcases h with ⟨rfl, rfl⟩ | ⟨i, o, c, el, m, ro, cells, rfl, hr, ht, hle⟩
  · rfl
  · have e : srcU F 1 (.l i o cs.length c) g = Bool.rec (motive := fun _ => RU) (findH F.h i fun c _ _ _ _ => rowAtU c o (Nat.mul cs.length 1) fun m => g cs.length m) (g cs.length []) (Nat.beq (Nat.mul cs.length 1) 0) := rfl
    have e1 : Nat.mul cs.length 1 = cs.length := Nat.mul_one _
    rw [e, e1, beqU]
    by_cases h0 : cs.length = 0
    · rw [decide_eq_true h0]
      have : cs = [] := List.length_eq_zero_iff.mp h0
      subst this; rfl
    · rw [decide_eq_false h0]
      show findH F.h i (fun c _ _ _ _ => rowAtU c o cs.length fun m => g cs.length m) = _
      rw [findH_get _ hr]
      unfold rowAtU
      rw [dropU_le _ (by omega)]
      have key : ∀ (l : List FV) (n : Nat) (g : List FV → RU), n ≤ l.length → (∀ c ∈ l.take n, Fi c) → rowU l n g = g (l.take n) := by
        intro l
        induction l with
        | nil =>
          intro n g hn _
          cases n with
          | zero => rfl
          | succ n => simp at hn
        | cons a l ih =>
          intro n g hn hfi
          cases n with
          | zero => rfl
          | succ n =>
            show eX a (rowU l n fun r => g (a :: r)) = _
            rw [(hfi a (by simp)).1, ih n _ (by simpa using hn) (fun c hc => hfi c (by simp [hc]))]
            rfl
      rw [key _ _ _ (by rw [List.length_drop]; omega) (by rw [ht]; exact hcs), ht]
/-- A string's bytes, as elements. -/
theorem strU_bs : ∀ l : List Nat, Bs l → strU l = l.map FV.b
  | [], _ => rfl
  | x :: l, h => by
    have e : strU (x :: l) = .b (Nat.mod x 256) :: strU l := rfl
    rw [e, strU_bs l (fun y hy => h y (by simp [hy]))]
    have : Nat.mod x 256 = x := Nat.mod_eq_of_lt (h x (by simp))
    rw [this]; rfl
/-- More are put behind a slice. -/
theorem app_many {F : FAW} (hF : Wf F) {v : FV} {el : Nat} {cs : List FV} {m : Nat} (h : SlB F v el cs m) (hcs : ∀ c ∈ cs, Fi c) {w : FV} {ds : List FV} (hd : ∀ g : Nat → List FV → RU, srcU F 1 w g = g ds.length ds) (hds : ∀ c ∈ ds, Fi c) {bytes : Nat}
    (hb : (2 * (cs.length + ds.length) + 192) * bytes ≤ 281474976710656) (hl : cs.length + ds.length ≤ 140737488355328) :
    ∃ v' F' m', (∀ f : KU, uApp el 1 bytes v w F f = f v' F') ∧ SlB F' v' el (cs ++ ds) m' ∧ Std F F' (fun _ => False) (fun q => q = m ∧ cs ≠ []) ∧ Wf F' ∧ (cs ++ ds ≠ [] → (m' = m ∧ cs ≠ []) ∨ F.x ≤ m') := by
  by_cases h0 : ds = []
  · subst h0
    refine ⟨v, F, m, fun f => ?_, by rw [List.append_nil]; exact h, ⟨fun _ _ _ h => h, fun _ _ _ h => h, fun _ _ h => h, Nat.le_refl _⟩, hF, fun hne => .inl ⟨rfl, by simpa using hne⟩⟩
    unfold uApp
    rw [hd]
    rcases h with ⟨_, rfl⟩ | ⟨_, i, mu, rfl, _⟩ <;> rfl
  · have hlen : 0 < ds.length := List.length_pos_iff.mpr h0
    rcases h with ⟨rfl, rfl⟩ | ⟨hne, i, mu, rfl, hi, hm⟩
    · refine ⟨.l F.x 0 ds.length ds.length, F.new ds el 1, F.x, fun f => ?_, .inr ⟨by simpa using h0, F.x, false, by simp, by rw [row_new, if_pos rfl]; simp, by rw [fam_new, if_pos rfl]; simp⟩, Std.new hF _ _ _ _ _, hF.new _ _ _, fun _ => .inr (Nat.le_refl _)⟩
      unfold uApp
      rw [hd, allU_all _ hds]
      show appNU el 1 bytes ds.length ds F f = _
      unfold appNU
      rw [beqU, decide_eq_false (by omega)]
      show cn (fitU ds.length bytes) (newU ds el 1 F fun i F' => f (.l i 0 ds.length ds.length) F') .no = _
      rw [fitU_le (by simpa using hb) (by simpa using hl), cn_true, newU_new]
    · refine ⟨.l F.x 0 (cs.length + ds.length) (cs.length + ds.length), F.grown m (cs ++ ds) el 1 false, m, fun f => ?_, .inr ⟨by simp [hne], F.x, true, by simp, by rw [row_grown, if_pos rfl], by rw [fam_grown, if_pos rfl, hm]; rfl⟩, ?_, ?_, fun _ => .inl ⟨rfl, hne⟩⟩
      · unfold uApp
        rw [hd, allU_all _ hds]
        show appSU el 1 bytes i 0 cs.length cs.length ds.length ds F f = _
        unfold appSU
        rw [beqU, decide_eq_false (show ¬ ds.length = 0 by omega)]
        show (findH F.h i fun cc el' es fm ro => cn (an (nt ro) (an (Nat.beq es 1) (Nat.beq el' el))) (Bool.rec (motive := fun _ => RU) (appGrU 1 bytes 0 cs.length ds.length cc ds el fm F f) (appInU 1 i 0 cs.length cs.length ds.length cc ds fm F f) (Nat.ble (Nat.add cs.length ds.length) cs.length)) .no) = _
        rw [findH_get _ hi, an_eq, an_eq, nt_eq, beqU, beqU, bleU]
        simp only [decide_true, Bool.not_false, Bool.and_self, cn_true]
        rw [decide_eq_false (show ¬ Nat.add cs.length ds.length ≤ cs.length by show ¬ cs.length + ds.length ≤ cs.length; omega)]
        show appGrU 1 bytes 0 cs.length ds.length cs ds el m F f = _
        have e2 : appGrU 1 bytes 0 cs.length ds.length cs ds el m F f = fN (Nat.mul cs.length 1) fun k => rowU cs k fun mm => cn (fitU (Nat.add cs.length ds.length) bytes) (growU F m 0 k mm ds el 1 false fun x F' => fN (Nat.add cs.length ds.length) fun n => f (.l x 0 n n) F') .no := by
          unfold appGrU
          congr 1
          funext k
          unfold rowAtU
          rw [dropU_le _ (by omega)]; rfl
        have e3 : Nat.mul cs.length 1 = cs.length := Nat.mul_one _
        have e5 : Nat.add cs.length ds.length = cs.length + ds.length := rfl
        rw [e2, fN_eq, e3, rowU_all _ hcs, e5, fitU_le hb hl, cn_true]
        unfold growU
        rw [catU_eq, fN_eq, lenU_eq, findF_get _ hm, ltN_eq]
        have e4 : Nat.add 0 cs.length = cs.length := Nat.zero_add _
        rw [e4, decide_eq_false (by omega)]
        show growK F m (cs ++ ds) el 1 false (cs ++ ds).length _ = _
        unfold growK
        rw [fN_eq, setF_get _ _ _ _ hm]
        simp only [fN_eq]
        rfl
      · refine ⟨fun j r _ e => by rw [row_grown, if_neg (by have := hF.row j r e; omega)]; exact e, fun j r hj e => ?_, fun j r e => by rw [mp_grown]; exact e, Nat.le_succ _⟩
        rw [fam_grown, if_neg (fun q => hj ⟨q, hne⟩)]; exact e
      · have hx : (F.grown m (cs ++ ds) el 1 false).x = F.x + 1 := rfl
        refine ⟨⟨Nat.lt_succ_of_lt (hF.fam _ _ hm), hF.own.mono (Nat.le_succ _)⟩, fun j r e => ?_, fun j r e => ?_, fun j r e => ?_⟩
        · rw [row_grown] at e; rw [hx]
          split at e
          · omega
          · have := hF.row j r e; omega
        · rw [fam_grown] at e; rw [hx]
          split at e
          · rename_i q; subst q; have := hF.fam _ _ hm; omega
          · have := hF.fam j r e; omega
        · rw [mp_grown] at e; rw [hx]
          have := hF.mp j r e; omega
/-- A slice of literals. -/
theorem lit_new {F : FAW} (hF : Wf F) (cs : List FV) (el : Nat) (hne : cs ≠ []) : SlB (F.new cs el 1) (.l F.x 0 cs.length cs.length) el cs F.x := .inr ⟨hne, F.x, false, rfl, by rw [row_new, if_pos rfl], by rw [fam_new, if_pos rfl]⟩
theorem uLit1 (el : Nat) (z : FV) {w : FV} (hw : Fi w) (hz : Fi z) (F : FAW) (f : KU) : uLitF el 1 [z] 1 [(0, 1, w)] F f = f (.l F.x 0 1 1) (F.new [w] el 1) := by
  have e : uLitF el 1 [z] 1 [(0, 1, w)] F f = fillU [z] [(0, 1, w)] fun l => newU l el 1 F fun i F' => f (.l i 0 1 1) F' := rfl
  have e2 : ∀ g : List FV → RU, fillU [z] [(0, 1, w)] g = eX w (cn (Nat.beq (lenU (cellsU w)) 1) (overAtU [z] 0 (cellsU w) fun l => g l) .no) := fun g => rfl
  rw [e, e2, hw.1, hw.2.2]
  have e3 : ∀ g : List FV → RU, overAtU [z] 0 [w] g = g [w] := fun g => rfl
  have e4 : Nat.beq (lenU [w]) 1 = true := rfl
  rw [e3, e4, cn_true, newU_new]
theorem rowU_take : ∀ (l : List FV) (n : Nat) (g : List FV → RU), n ≤ l.length → (∀ c ∈ l.take n, Fi c) → rowU l n g = g (l.take n)
  | [], 0, g, _, _ => rfl
  | [], n + 1, g, h, _ => by simp at h
  | a :: l, 0, g, _, _ => rfl
  | a :: l, n + 1, g, h, hf => by
    show eX a (rowU l n fun r => g (a :: r)) = _
    rw [(hf a (by simp)).1, rowU_take l n _ (by simpa using h) (fun c hc => hf c (by simp [hc]))]
    rfl
/-- A struct is loaded. -/
theorem uLd_agg {F : FAW} {i o n : Nat} {c e s m ro} (f : KU) (hr : F.row i = some (c, e, s, m, ro)) (hn : o + n ≤ c.length) (hf : ∀ w ∈ (c.drop o).take n, Fi w) : uLd (some n) (.p i o) F f = f (.a ((c.drop o).take n)) F := by
  show findH F.h i (fun c _ _ _ _ => rowAtU c o n fun m => f (.a m) F) = _
  rw [findH_get _ hr]
  unfold rowAtU
  rw [dropU_le _ (by omega), rowU_take _ _ _ (by rw [List.length_drop]; omega) hf]
theorem stU_all : ∀ (vs l : List FV) (g : List FV → RU), vs.length ≤ l.length → (∀ w ∈ vs, Fi w) → (∀ a ∈ l.take vs.length, Fi a) → stU l vs g = g (vs ++ l.drop vs.length)
  | [], l, g, _, _, _ => rfl
  | w :: vs, [], g, h, _, _ => by simp at h
  | w :: vs, a :: l, g, h, hw, ha => by
    show eX a (eC w (stU l vs fun m => g (w :: m))) = _
    rw [(ha a (by simp)).1, (hw w (by simp)).2.1, stU_all vs l _ (by simpa using h) (fun x hx => hw x (by simp [hx])) (fun x hx => ha x (by simp [hx]))]
    rfl
/-- A struct is stored at a row's beginning. -/
theorem uSt_agg {F : FAW} {i : Nat} {c e s m} {ex : Nat} (f : KU) (hr : F.row i = some (c, e, s, m, false)) (hf : F.fam m = some (false, ex)) (hl : c.length ≤ ex) {vs : List FV} (hn : vs.length = c.length) (hc : ∀ a ∈ c, Fi a) (hv : ∀ w ∈ vs, Fi w) :
    uSt vs.length (.p i 0) (.a vs) F f = f (.u []) (F.put i vs) := by
  show uStR vs.length i 0 vs F f = _
  unfold uStR
  rw [findH_get _ hr, cn_false, beqU, lenU_eq, decide_eq_true rfl, cn_true]
  have e1 : ∀ g, stAtU c 0 vs g = stU c vs g := fun g => by cases c <;> rfl
  rw [e1, stU_all _ _ _ (by omega) hv (fun a ha => hc a (List.mem_of_mem_take ha)), putU_put hr hf (by rw [List.length_append, List.length_drop]; omega)]
  rw [hn, List.drop_length, List.append_nil]
end Go.Proofs.Ythclmjelknibhaa.Ev
