/- What is handed in: rows that are not the call's own. -/
import Derived.Test.YthclmjelknibhaaEvS
import Derived.ChangeSlices
import Derived.WideShapes
namespace Go.Proofs.Ythclmjelknibhaa.Ev
open Go Go.RowKit
set_option linter.unusedVariables false
set_option linter.constructorNameAsVariable false
set_option linter.unusedSimpArgs false
set_option linter.unusedSectionVars false

def AW.arg (S : AW) (c : List Value) (elem es : Nat) : AW :=
  { heap := (S.next, .cells ⟨c, elem, es, S.next, 0, true⟩) :: S.heap, fams := (S.next, ⟨false, 0, c.length⟩) :: S.fams, next := S.next + 1, bs := S.bs }
theorem AW.obj_arg (S : AW) (c : List Value) (elem es i : Nat) : (S.arg c elem es).obj i = if i = S.next then some (.cells ⟨c, elem, es, S.next, 0, true⟩) else S.obj i := rfl
theorem AW.fam_arg (S : AW) (c : List Value) (elem es i : Nat) : (S.arg c elem es).fam i = if i = S.next then ⟨false, 0, c.length⟩ else S.fam i := by
  show (look ((S.next, _) :: S.fams) i).getD _ = _
  unfold look
  split <;> rfl
theorem AW.raw_arg {S : AW} (hf : ∀ i r, S.obj i = some (.cells r) → r.fam < S.next) (c : List Value) (elem es : Nat) {i : Nat} (hi : i ≠ S.next) : (S.arg c elem es).raw i = S.raw i := by
  unfold AW.raw
  rw [AW.obj_arg, if_neg hi]
  cases e : S.obj i with
  | none => rfl
  | some o =>
    cases o with
    | map es => rfl
    | cells r =>
      have hf : (S.arg c elem es).fam r.fam = S.fam r.fam := by rw [AW.fam_arg, if_neg (by have := hf i r e; omega)]
      simp only [hf]
theorem AW.raw_arg_same (S : AW) (c : List Value) (elem es : Nat) : (S.arg c elem es).raw S.next = some ⟨c, elem, es, S.next, 0, true⟩ :=
  AW.raw_of (by rw [AW.obj_arg, if_pos rfl]) (by rw [AW.fam_arg, if_pos rfl]; exact Nat.le_refl _)
theorem AW.mapv_arg (S : AW) (c : List Value) (elem es : Nat) {i : Nat} (hi : i ≠ S.next) : (S.arg c elem es).mapv i = S.mapv i := by
  unfold AW.mapv; rw [AW.obj_arg, if_neg hi]
theorem AW.mapv_arg_same (S : AW) (c : List Value) (elem es : Nat) : (S.arg c elem es).mapv S.next = none := by
  unfold AW.mapv; rw [AW.obj_arg, if_pos rfl]
/-- A row that was there. -/
theorem RelW.arg {W : World} {ρ : Ren} {S : AW} (h : RelW (Fz.of W) ρ S W) (c : List Value) (elem es : Nat) {blk : Nat} {off : Nat} {C : Array Value} {F : Nat × Nat} (hb : W.heap[blk]? = some (.cells C elem F))
    (hc : ∀ (i : Nat) (v : Value), c[i]? = some v → isBad v = false → ∃ v', C[off + i]? = some v' ∧ VRel ρ v v') :
    RelW (Fz.of W) (ρ.add S.next ⟨blk, off, C.size, es⟩) (S.arg c elem es) W := by
  have hn := h.fresh S.next (Nat.le_refl _)
  have hle := Ren.le_add (ρ := ρ) ⟨blk, off, C.size, es⟩ hn
  have hblt : blk < W.heap.size := (Array.getElem?_eq_some_iff.mp hb).1
  have hrw : ∀ {i : Nat}, i ≠ S.next → (S.arg c elem es).raw i = S.raw i := fun hi => AW.raw_arg h.famLt c elem es hi
  refine ⟨h.below, fun i hi => ?_, fun i o ho => ?_, fun i r ho => ?_, fun i r ho => ?_, fun i p hp => ?_, fun i p r hp hr => ?_, ?_, fun i r hr hro => ?_, fun i p es' hp hm => ?_, ?_⟩
  · have hi' : S.next + 1 ≤ i := hi
    rw [Ren.add_other _ (by omega)]; exact h.fresh i (by omega)
  · rw [AW.obj_arg] at ho
    show i < S.next + 1
    split at ho
    · omega
    · have := h.objLt i o ho; omega
  · rw [AW.obj_arg] at ho
    show r.fam < S.next + 1
    split at ho
    · simp only [Option.some.injEq, AObj.cells.injEq] at ho; subst ho; show S.next < S.next + 1; omega
    · have := h.famLt i r ho; omega
  · rw [AW.obj_arg] at ho
    split at ho
    · simp only [Option.some.injEq, AObj.cells.injEq] at ho; subst ho; exact Nat.zero_le _
    · have e : (S.arg c elem es).fam r.fam = S.fam r.fam := by rw [AW.fam_arg, if_neg (by have := h.famLt i r ho; omega)]
      rw [e]; exact h.genLe i r ho
  · by_cases hi : i = S.next
    · subst hi; rw [Ren.add_same] at hp; simp only [Option.some.injEq] at hp; subst hp; exact hblt
    · rw [Ren.add_other _ hi] at hp; exact h.blk i p hp
  · by_cases hi : i = S.next
    · subst hi
      rw [Ren.add_same] at hp; simp only [Option.some.injEq] at hp; subst hp
      rw [AW.raw_arg_same] at hr; simp only [Option.some.injEq] at hr; subst hr
      refine ⟨rfl, C, F, hb, rfl, fun k v hk hbd => ?_, fun h => (by cases h), fun _ => hblt⟩
      obtain ⟨v', e1, e2⟩ := hc k v hk hbd
      exact ⟨off + k, v', by simp; omega, e1, e2.mono hle⟩
    · rw [Ren.add_other _ hi] at hp
      rw [hrw hi] at hr
      exact (h.cells i p r hp hr).mono hle rfl
  · intro i j p q r s hij hp hq hr hs hro hso hb
    by_cases hi : i = S.next
    · subst hi
      rw [AW.raw_arg_same] at hr; simp only [Option.some.injEq] at hr; subst hr; cases hro
    · by_cases hj : j = S.next
      · subst hj
        rw [AW.raw_arg_same] at hs; simp only [Option.some.injEq] at hs; subst hs; cases hso
      · rw [Ren.add_other _ hi] at hp
        rw [Ren.add_other _ hj] at hq
        rw [hrw hi] at hr
        rw [hrw hj] at hs
        obtain ⟨e1, e2, e3⟩ := h.apart i j p q r s hij hp hq hr hs hro hso hb
        refine ⟨e1, ?_, e3⟩
        rw [AW.fam_arg, if_neg (by have := h.famLt i r (AW.raw_some hr).1; omega)]
        exact e2
  · by_cases hi : i = S.next
    · subst hi
      rw [AW.raw_arg_same] at hr; simp only [Option.some.injEq] at hr; subst hr; cases hro
    · rw [hrw hi] at hr
      rw [AW.fam_arg, if_neg (by have := h.famLt i r (AW.raw_some hr).1; omega)]
      exact h.ext i r hr hro
  · by_cases hi : i = S.next
    · subst hi; rw [AW.mapv_arg_same] at hm; cases hm
    · rw [Ren.add_other _ hi] at hp
      rw [AW.mapv_arg _ _ _ _ hi] at hm
      obtain ⟨h1, ms, ck, h2, h3⟩ := h.maps i p es' hp hm
      exact ⟨h1, ms, ck, h2, h3.1.mono hle, h3.2⟩
  · intro i j p q es' fs hij hp hq hm hn'
    have hi : i ≠ S.next := by rintro rfl; rw [AW.mapv_arg_same] at hm; cases hm
    have hj : j ≠ S.next := by rintro rfl; rw [AW.mapv_arg_same] at hn'; cases hn'
    rw [Ren.add_other _ hi] at hp
    rw [Ren.add_other _ hj] at hq
    rw [AW.mapv_arg _ _ _ _ hi] at hm
    rw [AW.mapv_arg _ _ _ _ hj] at hn'
    exact h.mapsApart i j p q es' fs hij hp hq hm hn'
def FAW.arg (F : FAW) (c : List FV) (elem es : Nat) : FAW := ⟨.cell F.x c elem es F.x true F.h, .fam F.x false c.length F.fs, F.x + 1⟩
theorem UR.arg {F : FAW} {S : AW} (h : UR F S) (c : List FV) (elem es : Nat) : UR (F.arg c elem es) (S.arg (toVs c) elem es) := by
  have hn := h.next
  have hraw : ∀ i c' e s m o, RowOk S i c' e s m o → i < S.next → RowOk (S.arg (toVs c) elem es) i c' e s m o := by
    intro i c' e s m o hr hi
    obtain ⟨g, hr⟩ := hr.raw
    obtain ⟨h1, h2⟩ := AW.raw_some hr
    refine ⟨_, AW.raw_of (by rw [AW.obj_arg, if_neg (by omega)]; exact h1) ?_, rfl, rfl, rfl, rfl, rfl⟩
    rw [AW.fam_arg]
    split
    · exact Nat.zero_le _
    · exact h2
  refine ⟨by show F.x + 1 = S.next + 1; omega, ⟨?_, by show F.x < S.next + 1; omega, h.h.fresh (by omega), h.h.mono (Nat.le_succ _) hraw fun i es' hm hi => ?_⟩, ⟨⟨0, ?_⟩, by show F.x < S.next + 1; omega, h.f.fresh (by omega), h.f.mono (Nat.le_succ _) fun i m e hm hi => ?_⟩⟩
  · refine ⟨_, by rw [hn]; exact AW.raw_arg_same S (toVs c) elem es, rfl, rfl, rfl, by rw [hn], rfl⟩
  · rw [AW.mapv_arg _ _ _ _ (by omega)]; exact hm
  · rw [AW.fam_arg, if_pos (by omega), toVs_length]
  · obtain ⟨g, hg⟩ := hm
    exact ⟨g, by rw [AW.fam_arg, if_neg (by omega)]; exact hg⟩
theorem row_arg (F : FAW) (c : List FV) (elem es : Nat) (j : Nat) : (F.arg c elem es).row j = if j = F.x then some (c, elem, es, F.x, true) else F.row j := rfl
theorem fam_arg (F : FAW) (c : List FV) (elem es : Nat) (j : Nat) : (F.arg c elem es).fam j = if j = F.x then some (false, c.length) else F.fam j := rfl
theorem mp_arg (F : FAW) (c : List FV) (elem es : Nat) (j : Nat) : (F.arg c elem es).mp j = F.mp j := rfl
theorem Wf.arg {F : FAW} (h : Wf F) (c : List FV) (elem es : Nat) : Wf (F.arg c elem es) := by
  have hx : (F.arg c elem es).x = F.x + 1 := rfl
  refine ⟨⟨Nat.lt_succ_self _, h.own.mono (Nat.le_succ _)⟩, fun j r e => ?_, fun j r e => ?_, fun j r e => ?_⟩
  · rw [row_arg] at e; rw [hx]
    split at e
    · omega
    · have := h.row j r e; omega
  · rw [fam_arg] at e; rw [hx]
    split at e
    · omega
    · have := h.fam j r e; omega
  · rw [mp_arg] at e; rw [hx]
    have := h.mp j r e; omega
theorem Std.arg {F : FAW} (h : Wf F) (c : List FV) (elem es : Nat) (A B : Nat → Prop) : Std F (F.arg c elem es) A B :=
  ⟨fun j r _ e => by rw [row_arg, if_neg (by have := h.row j r e; omega)]; exact e, fun j r _ e => by rw [fam_arg, if_neg (by have := h.fam j r e; omega)]; exact e, fun j r e => by rw [mp_arg]; exact e, Nat.le_succ _⟩
theorem Wf.empty : Wf ⟨.nil, .nil, 0⟩ := ⟨trivial, fun j r h => by simp [FAW.row, getH] at h, fun j r h => by simp [FAW.fam, getFm] at h, fun j r h => by simp [FAW.mp, getMp] at h⟩

/-- A slice whose elements are known. -/
def Sl (F : FAW) (v : FV) (cs : List FV) : Prop :=
  (v = .nl ∧ cs = []) ∨ ∃ i o c el m ro cells, v = .l i o cs.length c ∧ F.row i = some (cells, el, 1, m, ro) ∧ (cells.drop o).take cs.length = cs ∧ o + cs.length ≤ cells.length
theorem Sl.len {F : FAW} {v : FV} {cs : List FV} (h : Sl F v cs) (G : FAW) (f : KU) : uLen false v G f = f (.n cs.length) G := by
  rcases h with ⟨rfl, rfl⟩ | ⟨i, o, c, el, m, ro, cells, rfl, _⟩ <;> rfl
theorem Sl.at {cells cs : List FV} {o k : Nat} {w : FV} (h : (cells.drop o).take cs.length = cs) (hk : cs[k]? = some w) : cells[o + k]? = some w := by
  rw [← h, List.getElem?_take] at hk
  split at hk
  · rw [List.getElem?_drop] at hk; exact hk
  · cases hk
theorem Sl.get {F : FAW} {v : FV} {cs : List FV} (h : Sl F v cs) {k : Nat} {w : FV} (hk : cs[k]? = some w) (hw : Fi w) (f : KU) : (uIad 1 v (.n k) F fun v0 S => uLd none v0 S f) = f w F := by
  obtain ⟨hlt, _⟩ := List.getElem?_eq_some_iff.mp hk
  rcases h with ⟨rfl, rfl⟩ | ⟨i, o, c, el, m, ro, cells, rfl, hr, ht, _⟩
  · simp at hk
  · rw [uIad_l _ _ hlt]
    exact uLd_row f hr (by rw [Nat.mul_one]; exact Sl.at ht hk) hw
theorem Sl.std {F F' : FAW} {v : FV} {cs : List FV} (h : Sl F v cs) {A B : Nat → Prop} (hs : Std F F' A B) (hA : ∀ i r e m o, F.row i = some (r, e, 1, m, o) → ¬ A i) : Sl F' v cs := by
  rcases h with h | ⟨i, o, c, el, m, ro, cells, h1, h2, h3, h4⟩
  · exact .inl h
  · exact .inr ⟨i, o, c, el, m, ro, cells, h1, hs.row _ _ (hA _ _ _ _ _ h2) h2, h3, h4⟩
theorem SlB.sl {F : FAW} {v : FV} {el : Nat} {cs : List FV} {m : Nat} (h : SlB F v el cs m) : Sl F v cs := by
  rcases h with ⟨h1, h2⟩ | ⟨_, i, mu, h2, h3, _⟩
  · exact .inl ⟨h2, h1⟩
  · exact .inr ⟨i, 0, _, el, m, false, cs, h2, h3, by simp, by simp⟩

/-- A slice of numbers that is handed in: its elements. -/
def SliceArg (W : World) (k : IntKind) (a : Option Addr) (len cap : Nat) (zs : List Int) : Prop :=
  (a = none ∧ len = 0 ∧ cap = 0 ∧ zs = []) ∨ ∃ x C elem F, a = some x ∧ x.spot = none ∧ W.heap[x.block]? = some (.cells C elem F) ∧ len ≤ cap ∧ zs.length = len ∧ (0 < cap → x.off + cap ≤ C.size) ∧
    (∀ (i : Nat) (z : Int), zs[i]? = some z → C[x.off + i]? = some (.int k z)) ∧ ∀ n ∈ zs, (Lit.int k n).wf = true
theorem Addr.add_off (x : Addr) (hs : x.spot = none) (i : Nat) : x.add i = ⟨x.block, x.off + i, none⟩ := by
  unfold Addr.add
  split
  · rename_i h; subst h; cases x; simp_all
  · rfl
/-- Numbers in the plain form. -/
def numV (k : IntKind) (z : Int) : FV := ofV0 (.int k z)
theorem numV_to (k : IntKind) (z : Int) : toV (numV k z) = .int k z := toV_ofV0 _
theorem numV_u8 {z : Int} (h : (Lit.int .u8 z).wf = true) : numV .u8 z = .b z.toNat ∧ z.toNat < 256 := by
  have : 0 ≤ z ∧ z ≤ 255 := by
    simp [Lit.wf, IntKind.min, IntKind.max, IntKind.bits, IntKind.signed] at h
    omega
  obtain ⟨m, rfl⟩ := Int.eq_ofNat_of_zero_le this.1
  exact ⟨rfl, by simp; omega⟩
theorem numV_fi (k : IntKind) (z : Int) : Fi (numV k z) := by
  unfold numV ofV0
  split <;> first | exact Fi.n _ | exact Fi.b _ | exact Fi.i _ _ | (rename_i h; cases h; done) | (rename_i h _ _ _ _ _ _ _ _ _; exact absurd rfl (h k z))
theorem uSlow_n {op : BinOp} {x y : FV} {v : Value} (h : binV op (toV x) (toV y) = some v) (F : FAW) (f : KU) : uSlow op x y F f = f (ofV v) F := by
  unfold uSlow
  rw [h]; rfl
theorem uRem_bb (q : Bool) (a b : Nat) (hb : b ≠ 0) (F : FAW) (f : KU) : uQuo q .rem (.b a) (.b b) F f = f (.b (a % b)) F := by
  have e : uQuo q .rem (.b a) (.b b) F f = uSlow .rem (.b a) (.b b) F f := rfl
  have h : binV .rem (toV (.b a)) (toV (.b b)) = some (.int .u8 (.ofNat (a % b))) := by
    have hb' : ¬ (Int.ofNat b = 0) := by simpa using hb
    simp only [toV, binV, iop, if_true, if_neg hb']
    rfl
  rw [e, uSlow_n h]; rfl
/-- What a slice hands on. -/
theorem Sl.src {F : FAW} {v : FV} {cs : List FV} (h : Sl F v cs) (hcs : ∀ c ∈ cs, Fi c) (g : Nat → List FV → RU) : srcU F 1 v g = g cs.length cs := by
  rcases h with ⟨rfl, rfl⟩ | ⟨i, o, c, el, m, ro, cells, rfl, hr, ht, hle⟩
  · rfl
  · have e : srcU F 1 (.l i o cs.length c) g = Bool.rec (motive := fun _ => RU) (findH F.h i fun c _ _ _ _ => rowAtU c o (Nat.mul cs.length 1) fun m => g cs.length m) (g cs.length []) (Nat.beq (Nat.mul cs.length 1) 0) := rfl
    have e1 : Nat.mul cs.length 1 = cs.length := Nat.mul_one _
    rw [e, e1, beqU]
    by_cases h0 : cs.length = 0
    · rw [decide_eq_true h0]
      have : cs = [] := List.length_eq_zero_iff.mp h0
      subst this; rfl
    · rw [decide_eq_false h0]
      show findH F.h i (fun c _ _ _ _ => rowAtU c o cs.length fun m => g cs.length m) = _
      rw [findH_get _ hr]
      unfold rowAtU
      rw [dropU_le _ (by omega)]
      have key : ∀ (l : List FV) (n : Nat) (g : List FV → RU), n ≤ l.length → (∀ c ∈ l.take n, Fi c) → rowU l n g = g (l.take n) := by
        intro l
        induction l with
        | nil =>
          intro n g hn _
          cases n with
          | zero => rfl
          | succ n => simp at hn
        | cons a l ih =>
          intro n g hn hfi
          cases n with
          | zero => rfl
          | succ n =>
            show eX a (rowU l n fun r => g (a :: r)) = _
            rw [(hfi a (by simp)).1, ih n _ (by simpa using hn) (fun c hc => hfi c (by simp [hc]))]
            rfl
      rw [key _ _ _ (by rw [List.length_drop]; omega) (by rw [ht]; exact hcs), ht]
theorem uLit1 (el : Nat) (z : FV) {w : FV} (hw : Fi w) (hz : Fi z) (F : FAW) (f : KU) : uLitF el 1 [z] 1 [(0, 1, w)] F f = f (.l F.x 0 1 1) (F.new [w] el 1) := by
  have e : uLitF el 1 [z] 1 [(0, 1, w)] F f = fillU [z] [(0, 1, w)] fun l => newU l el 1 F fun i F' => f (.l i 0 1 1) F' := rfl
  have e2 : ∀ g : List FV → RU, fillU [z] [(0, 1, w)] g = eX w (cn (Nat.beq (lenU (cellsU w)) 1) (overAtU [z] 0 (cellsU w) fun l => g l) .no) := fun g => rfl
  rw [e, e2, hw.1, hw.2.2]
  have e3 : ∀ g : List FV → RU, overAtU [z] 0 [w] g = g [w] := fun g => rfl
  have e4 : Nat.beq (lenU [w]) 1 = true := rfl
  rw [e3, e4, cn_true, newU_new]
theorem rowU_take : ∀ (l : List FV) (n : Nat) (g : List FV → RU), n ≤ l.length → (∀ c ∈ l.take n, Fi c) → rowU l n g = g (l.take n)
  | [], 0, g, _, _ => rfl
  | [], n + 1, g, h, _ => by simp at h
  | a :: l, 0, g, _, _ => rfl
  | a :: l, n + 1, g, h, hf => by
    show eX a (rowU l n fun r => g (a :: r)) = _
    rw [(hf a (by simp)).1, rowU_take l n _ (by simpa using h) (fun c hc => hf c (by simp [hc]))]
    rfl
/-- A struct is loaded. -/
theorem uLd_agg {F : FAW} {i o n : Nat} {c e s m ro} (f : KU) (hr : F.row i = some (c, e, s, m, ro)) (hn : o + n ≤ c.length) (hf : ∀ w ∈ (c.drop o).take n, Fi w) : uLd (some n) (.p i o) F f = f (.a ((c.drop o).take n)) F := by
  show findH F.h i (fun c _ _ _ _ => rowAtU c o n fun m => f (.a m) F) = _
  rw [findH_get _ hr]
  unfold rowAtU
  rw [dropU_le _ (by omega), rowU_take _ _ _ (by rw [List.length_drop]; omega) hf]
theorem stU_all : ∀ (vs l : List FV) (g : List FV → RU), vs.length ≤ l.length → (∀ w ∈ vs, Fi w) → (∀ a ∈ l.take vs.length, Fi a) → stU l vs g = g (vs ++ l.drop vs.length)
  | [], l, g, _, _, _ => rfl
  | w :: vs, [], g, h, _, _ => by simp at h
  | w :: vs, a :: l, g, h, hw, ha => by
    show eX a (eC w (stU l vs fun m => g (w :: m))) = _
    rw [(ha a (by simp)).1, (hw w (by simp)).2.1, stU_all vs l _ (by simpa using h) (fun x hx => hw x (by simp [hx])) (fun x hx => ha x (by simp [hx]))]
    rfl
/-- A struct is stored at a row's beginning. -/
theorem uSt_agg {F : FAW} {i : Nat} {c e s m} {ex : Nat} (f : KU) (hr : F.row i = some (c, e, s, m, false)) (hf : F.fam m = some (false, ex)) (hl : c.length ≤ ex) {vs : List FV} (hn : vs.length = c.length) (hc : ∀ a ∈ c, Fi a) (hv : ∀ w ∈ vs, Fi w) :
    uSt vs.length (.p i 0) (.a vs) F f = f (.u []) (F.put i vs) := by
  show uStR vs.length i 0 vs F f = _
  unfold uStR
  rw [findH_get _ hr, cn_false, beqU, lenU_eq, decide_eq_true rfl, cn_true]
  have e1 : ∀ g, stAtU c 0 vs g = stU c vs g := fun g => by cases c <;> rfl
  rw [e1, stU_all _ _ _ (by omega) hv (fun a ha => hc a (List.mem_of_mem_take ha)), putU_put hr hf (by rw [List.length_append, List.length_drop]; omega)]
  rw [hn, List.drop_length, List.append_nil]
end Go.Proofs.Ythclmjelknibhaa.Ev
/- Steps are told from their head on: what goes on behind is not looked at before. -/
namespace Go.Proofs.Ythclmjelknibhaa.Ev
open Go Go.RowKit
set_option linter.unusedVariables false
set_option linter.constructorNameAsVariable false
set_option linter.unusedSimpArgs false
set_option linter.unusedSectionVars false

@[congr] theorem lz_exU {o o' : EX} (h : o = o') (a : RU) (b : Nat → RU) (c : RU) : exU o a b c = exU o' a b c := by subst h; rfl
@[congr] theorem lz_cn {o o' : Bool} (h : o = o') (a b : RU) : cn o a b = cn o' a b := by subst h; rfl
@[congr] theorem lz_eT {v v' : FV} (h : v = v') (t : Bool → RU) : eT v t = eT v' t := by subst h; rfl
@[congr] theorem lz_eP {v v' : FV} (h : v = v') (t : Nat → Nat → RU) : eP v t = eP v' t := by subst h; rfl
@[congr] theorem lz_eI {v v' : FV} (h : v = v') (t : Nat → RU) : eI v t = eI v' t := by subst h; rfl
@[congr] theorem lz_goOn {r r' : RU} (h : r = r') (f : KU) : goOn r f = goOn r' f := by subst h; rfl
@[congr] theorem lz_loop {V : Type} {v v' : V} {F F' : FAW} (a : CdU V) (κ : EX → V → FAW → RU) (n : Nat) (h : v = v') (k : F = F') : loopNU a κ n v F = loopNU a κ n v' F' := by subst h; subst k; rfl
@[congr] theorem lz_veqU {a a' b b' : FV} (h : a = a') (k : b = b') (r : RU) : veqU a b r = veqU a' b' r := by subst h; subst k; rfl
@[congr] theorem lz_uO {F F' : FAW} (o : Option Value) (hF : F = F') (f : KU) : uO o F f = uO o F' f := by subst hF; rfl
@[congr] theorem lz_uSlow {x x' : FV} {y y' : FV} {F F' : FAW} (op : BinOp) (hx : x = x') (hy : y = y') (hF : F = F') (f : KU) : uSlow op x y F f = uSlow op x' y' F' f := by subst hx; subst hy; subst hF; rfl
@[congr] theorem lz_uNum {F F' : FAW} (m : Nat) (hF : F = F') (f : KU) : uNum m F f = uNum m F' f := by subst hF; rfl
@[congr] theorem lz_uStr {F F' : FAW} (a : List Nat) (b : List Nat) (hF : F = F') (f : KU) : uStr a b F f = uStr a b F' f := by subst hF; rfl
@[congr] theorem lz_uAdd {x x' : FV} {y y' : FV} {F F' : FAW} (hx : x = x') (hy : y = y') (hF : F = F') (f : KU) : uAdd x y F f = uAdd x' y' F' f := by subst hx; subst hy; subst hF; rfl
@[congr] theorem lz_uSubN {x x' : FV} {y y' : FV} {F F' : FAW} (a : Nat) (b : Nat) (hx : x = x') (hy : y = y') (hF : F = F') (f : KU) : uSubN a b x y F f = uSubN a b x' y' F' f := by subst hx; subst hy; subst hF; rfl
@[congr] theorem lz_uSub {x x' : FV} {y y' : FV} {F F' : FAW} (hx : x = x') (hy : y = y') (hF : F = F') (f : KU) : uSub x y F f = uSub x' y' F' f := by subst hx; subst hy; subst hF; rfl
@[congr] theorem lz_uMul {x x' : FV} {y y' : FV} {F F' : FAW} (hx : x = x') (hy : y = y') (hF : F = F') (f : KU) : uMul x y F f = uMul x' y' F' f := by subst hx; subst hy; subst hF; rfl
@[congr] theorem lz_uQuoN {F F' : FAW} (q : Bool) (a : Nat) (b : Nat) (hF : F = F') (f : KU) : uQuoN q a b F f = uQuoN q a b F' f := by subst hF; rfl
@[congr] theorem lz_uQuo {x x' : FV} {y y' : FV} {F F' : FAW} (q : Bool) (op : BinOp) (hx : x = x') (hy : y = y') (hF : F = F') (f : KU) : uQuo q op x y F f = uQuo q op x' y' F' f := by subst hx; subst hy; subst hF; rfl
@[congr] theorem lz_uEq {x x' : FV} {y y' : FV} {F F' : FAW} (neg : Bool) (op : BinOp) (hx : x = x') (hy : y = y') (hF : F = F') (f : KU) : uEq neg op x y F f = uEq neg op x' y' F' f := by subst hx; subst hy; subst hF; rfl
@[congr] theorem lz_uCmp {x x' : FV} {y y' : FV} {F F' : FAW} (g : Nat → Nat → Bool) (op : BinOp) (hx : x = x') (hy : y = y') (hF : F = F') (f : KU) : uCmp g op x y F f = uCmp g op x' y' F' f := by subst hx; subst hy; subst hF; rfl
@[congr] theorem lz_uBin {x x' : FV} {y y' : FV} {F F' : FAW} (op : BinOp) (hx : x = x') (hy : y = y') (hF : F = F') (f : KU) : uBin op x y F f = uBin op x' y' F' f := by subst hx; subst hy; subst hF; rfl
@[congr] theorem lz_uPick {c c' : FV} {a a' : FV} {b b' : FV} {F F' : FAW} (hc : c = c') (ha : a = a') (hb : b = b') (hF : F = F') (f : KU) : uPick c a b F f = uPick c' a' b' F' f := by subst hc; subst ha; subst hb; subst hF; rfl
@[congr] theorem lz_uEqB {a a' : FV} {b b' : FV} {F F' : FAW} (neg : Bool) (ha : a = a') (hb : b = b') (hF : F = F') (f : KU) : uEqB neg a b F f = uEqB neg a' b' F' f := by subst ha; subst hb; subst hF; rfl
@[congr] theorem lz_uEqN {x x' : FV} {y y' : FV} {F F' : FAW} (kind : Nat) (neg : Bool) (hx : x = x') (hy : y = y') (hF : F = F') (f : KU) : uEqN kind neg x y F f = uEqN kind neg x' y' F' f := by subst hx; subst hy; subst hF; rfl
@[congr] theorem lz_uEqA {x x' : FV} {y y' : FV} {F F' : FAW} (neg : Bool) (ls : List KL) (hx : x = x') (hy : y = y') (hF : F = F') (f : KU) : uEqA neg ls x y F f = uEqA neg ls x' y' F' f := by subst hx; subst hy; subst hF; rfl
@[congr] theorem lz_uUn {a a' : FV} {F F' : FAW} (op : UnOp) (ha : a = a') (hF : F = F') (f : KU) : uUn op a F f = uUn op a' F' f := by subst ha; subst hF; rfl
@[congr] theorem lz_uCvIK {F F' : FAW} (k : IntKind) (o : RU) (m : Nat) (hF : F = F') (f : KU) : uCvIK k o m F f = uCvIK k o m F' f := by subst hF; rfl
@[congr] theorem lz_uCvI {a a' : FV} {F F' : FAW} (k : IntKind) (ha : a = a') (hF : F = F') (f : KU) : uCvI k a F f = uCvI k a' F' f := by subst ha; subst hF; rfl
@[congr] theorem lz_uCvS {a a' : FV} {F F' : FAW} (ha : a = a') (hF : F = F') (f : KU) : uCvS a F f = uCvS a' F' f := by subst ha; subst hF; rfl
@[congr] theorem lz_uFldA {l l' : List FV} {F F' : FAW} (sz : Option Nat) (off : Nat) (hl : l = l') (hF : F = F') (f : KU) : uFldA sz off l F f = uFldA sz off l' F' f := by subst hl; subst hF; rfl
@[congr] theorem lz_uFld {a a' : FV} {F F' : FAW} (sz : Option Nat) (off : Nat) (ha : a = a') (hF : F = F') (f : KU) : uFld sz off a F f = uFld sz off a' F' f := by subst ha; subst hF; rfl
@[congr] theorem lz_uExt {a a' : FV} {F F' : FAW} (i : Nat) (ha : a = a') (hF : F = F') (f : KU) : uExt i a F f = uExt i a' F' f := by subst ha; subst hF; rfl
@[congr] theorem lz_uBuild {ps ps' : List (Nat × Nat × FV)} {F F' : FAW} (zero : List Value) (hps : ps = ps') (hF : F = F') (f : KU) : uBuild zero ps F f = uBuild zero ps' F' f := by subst hps; subst hF; rfl
@[congr] theorem lz_uFad {a a' : FV} {F F' : FAW} (off : Nat) (ha : a = a') (hF : F = F') (f : KU) : uFad off a F f = uFad off a' F' f := by subst ha; subst hF; rfl
@[congr] theorem lz_uIadN {F F' : FAW} (size : Nat) (i : Nat) (o : Nat) (n : Nat) (m : Nat) (hF : F = F') (f : KU) : uIadN size i o n m F f = uIadN size i o n m F' f := by subst hF; rfl
@[congr] theorem lz_uIad {a a' : FV} {b b' : FV} {F F' : FAW} (size : Nat) (ha : a = a') (hb : b = b') (hF : F = F') (f : KU) : uIad size a b F f = uIad size a' b' F' f := by subst ha; subst hb; subst hF; rfl
@[congr] theorem lz_uIadA {a a' : FV} {b b' : FV} {F F' : FAW} (ln : Nat) (size : Nat) (ha : a = a') (hb : b = b') (hF : F = F') (f : KU) : uIadA ln size a b F f = uIadA ln size a' b' F' f := by subst ha; subst hb; subst hF; rfl
@[congr] theorem lz_uIdxS {a a' : FV} {b b' : FV} {F F' : FAW} (ha : a = a') (hb : b = b') (hF : F = F') (f : KU) : uIdxS a b F f = uIdxS a' b' F' f := by subst ha; subst hb; subst hF; rfl
@[congr] theorem lz_uIdxA {a a' : FV} {b b' : FV} {F F' : FAW} (ln : Nat) (size : Nat) (ag : Bool) (ha : a = a') (hb : b = b') (hF : F = F') (f : KU) : uIdxA ln size ag a b F f = uIdxA ln size ag a' b' F' f := by subst ha; subst hb; subst hF; rfl
@[congr] theorem lz_uSlSL {lo lo' : Option FV} {hi hi' : Option FV} {F F' : FAW} (s : List Nat) (hlo : lo = lo') (hhi : hi = hi') (hF : F = F') (f : KU) : uSlSL s lo hi F f = uSlSL s lo' hi' F' f := by subst hlo; subst hhi; subst hF; rfl
@[congr] theorem lz_uSlS {a a' : FV} {lo lo' : Option FV} {hi hi' : Option FV} {F F' : FAW} (ha : a = a') (hlo : lo = lo') (hhi : hi = hi') (hF : F = F') (f : KU) : uSlS a lo hi F f = uSlS a' lo' hi' F' f := by subst ha; subst hlo; subst hhi; subst hF; rfl
@[congr] theorem lz_uSlVL {lo lo' : Option FV} {hi hi' : Option FV} {mx mx' : Option FV} {F F' : FAW} (size : Nat) (i : Nat) (o : Nat) (n : Nat) (c : Nat) (hlo : lo = lo') (hhi : hi = hi') (hmx : mx = mx') (hF : F = F') (f : KU) : uSlVL size i o n c lo hi mx F f = uSlVL size i o n c lo' hi' mx' F' f := by subst hlo; subst hhi; subst hmx; subst hF; rfl
@[congr] theorem lz_uSlVN {lo lo' : Option FV} {hi hi' : Option FV} {mx mx' : Option FV} {F F' : FAW} (hlo : lo = lo') (hhi : hi = hi') (hmx : mx = mx') (hF : F = F') (f : KU) : uSlVN lo hi mx F f = uSlVN lo' hi' mx' F' f := by subst hlo; subst hhi; subst hmx; subst hF; rfl
@[congr] theorem lz_uSlV {a a' : FV} {lo lo' : Option FV} {hi hi' : Option FV} {mx mx' : Option FV} {F F' : FAW} (size : Nat) (ha : a = a') (hlo : lo = lo') (hhi : hi = hi') (hmx : mx = mx') (hF : F = F') (f : KU) : uSlV size a lo hi mx F f = uSlV size a' lo' hi' mx' F' f := by subst ha; subst hlo; subst hhi; subst hmx; subst hF; rfl
@[congr] theorem lz_uNilc {a a' : FV} {F F' : FAW} (ha : a = a') (hF : F = F') (f : KU) : uNilc a F f = uNilc a' F' f := by subst ha; subst hF; rfl
@[congr] theorem lz_uMark {a a' : FV} {F F' : FAW} (ha : a = a') (hF : F = F') (f : KU) : uMark a F f = uMark a' F' f := by subst ha; subst hF; rfl
@[congr] theorem lz_uCapn {a a' : FV} {F F' : FAW} (ha : a = a') (hF : F = F') (f : KU) : uCapn a F f = uCapn a' F' f := by subst ha; subst hF; rfl
@[congr] theorem lz_uLen {a a' : FV} {F F' : FAW} (str : Bool) (ha : a = a') (hF : F = F') (f : KU) : uLen str a F f = uLen str a' F' f := by subst ha; subst hF; rfl
@[congr] theorem lz_uLdP {F F' : FAW} (sz : Option Nat) (i : Nat) (o : Nat) (hF : F = F') (f : KU) : uLdP sz i o F f = uLdP sz i o F' f := by subst hF; rfl
@[congr] theorem lz_uLd {a a' : FV} {F F' : FAW} (sz : Option Nat) (ha : a = a') (hF : F = F') (f : KU) : uLd sz a F f = uLd sz a' F' f := by subst ha; subst hF; rfl
@[congr] theorem lz_uCvBS {a a' : FV} {F F' : FAW} (ha : a = a') (hF : F = F') (f : KU) : uCvBS a F f = uCvBS a' F' f := by subst ha; subst hF; rfl
@[congr] theorem lz_uStR {vs vs' : List FV} {F F' : FAW} (size : Nat) (i : Nat) (o : Nat) (hvs : vs = vs') (hF : F = F') (f : KU) : uStR size i o vs F f = uStR size i o vs' F' f := by subst hvs; subst hF; rfl
@[congr] theorem lz_uSt {a a' : FV} {w w' : FV} {F F' : FAW} (size : Nat) (ha : a = a') (hw : w = w') (hF : F = F') (f : KU) : uSt size a w F f = uSt size a' w' F' f := by subst ha; subst hw; subst hF; rfl
@[congr] theorem lz_uBox {w w' : FV} {F F' : FAW} (elem : Nat) (es : Nat) (hw : w = w') (hF : F = F') (f : KU) : uBox elem es w F f = uBox elem es w' F' f := by subst hw; subst hF; rfl
@[congr] theorem lz_uNew {F F' : FAW} (elem : Nat) (es : Nat) (cells : List Value) (hF : F = F') (f : KU) : uNew elem es cells F f = uNew elem es cells F' f := by subst hF; rfl
@[congr] theorem lz_uLit {ps ps' : List (Nat × Nat × FV)} {F F' : FAW} (elem : Nat) (size : Nat) (zero : List Value) (n : Nat) (hps : ps = ps') (hF : F = F') (f : KU) : uLit elem size zero n ps F f = uLit elem size zero n ps' F' f := by subst hps; subst hF; rfl
@[congr] theorem lz_uMks {l l' : FV} {c c' : FV} {F F' : FAW} (elem : Nat) (size : Nat) (bytes : Nat) (zero : List Value) (hl : l = l') (hc : c = c') (hF : F = F') (f : KU) : uMks elem size bytes zero l c F f = uMks elem size bytes zero l' c' F' f := by subst hl; subst hc; subst hF; rfl
@[congr] theorem lz_uCvSB {a a' : FV} {F F' : FAW} (elem : Nat) (ha : a = a') (hF : F = F') (f : KU) : uCvSB elem a F f = uCvSB elem a' F' f := by subst ha; subst hF; rfl
@[congr] theorem lz_uApp {s s' : FV} {x x' : FV} {F F' : FAW} (elem : Nat) (size : Nat) (bytes : Nat) (hs : s = s') (hx : x = x') (hF : F = F') (f : KU) : uApp elem size bytes s x F f = uApp elem size bytes s' x' F' f := by subst hs; subst hx; subst hF; rfl
@[congr] theorem lz_uMlk {x x' : FV} {k k' : FV} {F F' : FAW} (ks : KS) (z : Value) (ok : Bool) (hx : x = x') (hk : k = k') (hF : F = F') (f : KU) : uMlk ks z ok x k F f = uMlk ks z ok x' k' F' f := by subst hx; subst hk; subst hF; rfl
@[congr] theorem lz_uMup {x x' : FV} {k k' : FV} {w w' : FV} {F F' : FAW} (ks : KS) (hx : x = x') (hk : k = k') (hw : w = w') (hF : F = F') (f : KU) : uMup ks x k w F f = uMup ks x' k' w' F' f := by subst hx; subst hk; subst hw; subst hF; rfl
@[congr] theorem lz_uMkm {r r' : Option FV} {F F' : FAW} (hr : r = r') (hF : F = F') (f : KU) : uMkm r F f = uMkm r' F' f := by subst hr; subst hF; rfl
@[congr] theorem lz_uLenM {x x' : FV} {F F' : FAW} (hx : x = x') (hF : F = F') (f : KU) : uLenM x F f = uLenM x' F' f := by subst hx; subst hF; rfl
@[congr] theorem lz_uMkf {a a' : List FV} {c c' : List FV} {F F' : FAW} (g : FuncId) (ha : a = a') (hc : c = c') (hF : F = F') (f : KU) : uMkf g a c F f = uMkf g a' c' F' f := by subst ha; subst hc; subst hF; rfl
@[congr] theorem lz_uCallV {g g' : FV} {args args' : List FV} {F F' : FAW} (U : CU) (hg : g = g') (hargs : args = args') (hF : F = F') (f : KU) : uCallV U g args F f = uCallV U g' args' F' f := by subst hg; subst hargs; subst hF; rfl
@[congr] theorem lz_uMM {xs xs' : List FV} {F F' : FAW} (mx : Bool) (hxs : xs = xs') (hF : F = F') (f : KU) : uMM mx xs F f = uMM mx xs' F' f := by subst hxs; subst hF; rfl
@[congr] theorem lz_uNewF {cells cells' : List FV} {F F' : FAW} (elem : Nat) (es : Nat) (hcells : cells = cells') (hF : F = F') (f : KU) : uNewF elem es cells F f = uNewF elem es cells' F' f := by subst hcells; subst hF; rfl
@[congr] theorem lz_uBuildF {zero zero' : List FV} {ps ps' : List (Nat × Nat × FV)} {F F' : FAW} (hzero : zero = zero') (hps : ps = ps') (hF : F = F') (f : KU) : uBuildF zero ps F f = uBuildF zero' ps' F' f := by subst hzero; subst hps; subst hF; rfl
@[congr] theorem lz_uLitF {zero zero' : List FV} {ps ps' : List (Nat × Nat × FV)} {F F' : FAW} (elem : Nat) (size : Nat) (n : Nat) (hzero : zero = zero') (hps : ps = ps') (hF : F = F') (f : KU) : uLitF elem size zero n ps F f = uLitF elem size zero' n ps' F' f := by subst hzero; subst hps; subst hF; rfl
@[congr] theorem lz_uMksF {zero zero' : List FV} {l l' : FV} {c c' : FV} {F F' : FAW} (elem : Nat) (size : Nat) (bytes : Nat) (hzero : zero = zero') (hl : l = l') (hc : c = c') (hF : F = F') (f : KU) : uMksF elem size bytes zero l c F f = uMksF elem size bytes zero' l' c' F' f := by subst hzero; subst hl; subst hc; subst hF; rfl
@[congr] theorem lz_uMlkF {z z' : FV} {x x' : FV} {k k' : FV} {F F' : FAW} (ks : KS) (ok : Bool) (hz : z = z') (hx : x = x') (hk : k = k') (hF : F = F') (f : KU) : uMlkF ks z ok x k F f = uMlkF ks z' ok x' k' F' f := by subst hz; subst hx; subst hk; subst hF; rfl
@[congr] theorem lz_uGet {a a' : FV} {F F' : FAW} (off : Nat) (ha : a = a') (hF : F = F') (f : KU) : uGet off a F f = uGet off a' F' f := by subst ha; subst hF; rfl
@[congr] theorem lz_uNot {a a' : FV} {F F' : FAW} (ha : a = a') (hF : F = F') (f : KU) : uNot a F f = uNot a' F' f := by subst ha; subst hF; rfl
@[congr] theorem lz_uCall {args args' : List FV} {F F' : FAW} (U : CU) (g : FuncId) (h : args = args') (hF : F = F') (f : KU) : uCall U g args F f = uCall U g args' F' f := by subst h; subst hF; rfl
@[congr] theorem lz_uCpy {d d' s s' : FV} {F F' : FAW} (size : Nat) (hd : d = d') (hs : s = s') (hF : F = F') (f : KU) : uCpy size d s F f = uCpy size d' s' F' f := by subst hd; subst hs; subst hF; rfl
@[congr] theorem lz_uMdel {x x' k k' : FV} {F F' : FAW} (ks : KS) (hx : x = x') (hk : k = k') (hF : F = F') (f : KU) : uMdel ks x k F f = uMdel ks x' k' F' f := by subst hx; subst hk; subst hF; rfl
@[congr] theorem lz_uAppzF {s s' x x' : FV} {F F' : FAW} (elem size bytes : Nat) (zero : List FV) (hs : s = s') (hx : x = x') (hF : F = F') (f : KU) : uAppzF elem size bytes zero s x F f = uAppzF elem size bytes zero s' x' F' f := by subst hs; subst hx; subst hF; rfl
end Go.Proofs.Ythclmjelknibhaa.Ev
/- Numbers without a sign, bits; parts of slices. -/
namespace Go.Proofs.Ythclmjelknibhaa.Ev
open Go Go.RowKit
set_option linter.unusedVariables false
set_option linter.constructorNameAsVariable false
set_option linter.unusedSimpArgs false
set_option linter.unusedSectionVars false

/-- A number of 64 bits without a sign. -/
def w64 (n : Nat) : FV := .i .u64 (Int.ofNat n)
theorem Fi.w64 (n : Nat) : Fi (w64 n) := Fi.i _ _
theorem wrap_u64 {m : Nat} (h : m < 18446744073709551616) : IntKind.wrap .u64 (m : Int) = (m : Int) := by
  simp only [IntKind.wrap, IntKind.bits, IntKind.signed]
  simp
  omega
theorem wrap_u64' (m : Nat) : IntKind.wrap .u64 (m : Int) = ((m % 18446744073709551616 : Nat) : Int) := by
  simp only [IntKind.wrap, IntKind.bits, IntKind.signed]
  simp
theorem wrap_u8' (m : Nat) : IntKind.wrap .u8 (m : Int) = ((m % 256 : Nat) : Int) := by
  simp only [IntKind.wrap, IntKind.bits, IntKind.signed]
  simp
theorem wrap_u32' (m : Nat) : IntKind.wrap .u32 (m : Int) = ((m % 4294967296 : Nat) : Int) := by
  simp only [IntKind.wrap, IntKind.bits, IntKind.signed]
  simp
section
variable (F : FAW) (f : KU)
theorem uCv_un (m : Nat) (h : m < 18446744073709551616) : uCvI .u64 (.n m) F f = f (w64 m) F := by
  have e : uCvI .u64 (.n m) F f = uO (wCvI .u64 (toV (.n m))) F f := rfl
  have h2 : wCvI .u64 (toV (.n m)) = some (.int .u64 (Int.ofNat m)) := by
    simp only [toV, wCvI]
    rw [show (Int.ofNat m) = ((m : Nat) : Int) from rfl, wrap_u64 h]
  rw [e, h2]; rfl
theorem uCv_ub (m : Nat) (h : m < 256) : uCvI .u64 (.b m) F f = f (w64 m) F := by
  have e : uCvI .u64 (.b m) F f = uO (wCvI .u64 (toV (.b m))) F f := rfl
  have h2 : wCvI .u64 (toV (.b m)) = some (.int .u64 (Int.ofNat m)) := by
    simp only [toV, wCvI]
    rw [show (Int.ofNat m) = ((m : Nat) : Int) from rfl, wrap_u64 (by omega)]
  rw [e, h2]; rfl
theorem uCv_nw (m : Nat) (h : m ≤ 9223372036854775807) : uCvI .i64 (w64 m) F f = f (.n m) F := by
  have e : uCvI .i64 (w64 m) F f = uO (wCvI .i64 (toV (w64 m))) F f := rfl
  have h2 : wCvI .i64 (toV (w64 m)) = some (.int .i64 (Int.ofNat m)) := by
    simp only [w64, toV, wCvI]
    rw [show (Int.ofNat m) = ((m : Nat) : Int) from rfl, wrap_n h]
  rw [e, h2]; rfl
theorem uCv_nb (m : Nat) (h : m ≤ 9223372036854775807) : uCvI .i64 (.b m) F f = f (.n m) F := uNum_le F f h
theorem uCv_bw (m : Nat) : uCvI .u8 (w64 m) F f = f (.b (m % 256)) F := by
  have e : uCvI .u8 (w64 m) F f = uO (wCvI .u8 (toV (w64 m))) F f := rfl
  have h2 : wCvI .u8 (toV (w64 m)) = some (.int .u8 (Int.ofNat (m % 256))) := by
    simp only [w64, toV, wCvI]
    rw [show (Int.ofNat m) = ((m : Nat) : Int) from rfl, wrap_u8']
    rfl
  rw [e, h2]; rfl
theorem uShr_w (a k : Nat) (hk : k < 64) (v : FV) (hv : v = w64 k ∨ v = .n k) : uSlow .shr (w64 a) v F f = f (w64 (a / 2 ^ k)) F := by
  have h : binV .shr (toV (w64 a)) (toV v) = some (.int .u64 (Int.ofNat (a / 2 ^ k))) := by
    have hm : (min (Int.ofNat k).toNat (IntKind.bits .u64)) = k := by simp [IntKind.bits]; omega
    rcases hv with rfl | rfl <;>
    · simp only [w64, toV, binV, shop]
      rw [if_neg (by simp), hm]
      congr 2
      show Int.fdiv ((a : Nat) : Int) ((2 : Int) ^ k) = ((a / 2 ^ k : Nat) : Int)
      rw [Int.fdiv_eq_ediv_of_nonneg _ (by exact Int.pow_nonneg (by decide))]
      norm_cast
  rw [uSlow_n h]; rfl
theorem uShl_w (a k : Nat) (hk : k < 64) (v : FV) (hv : v = w64 k ∨ v = .n k) : uSlow .shl (w64 a) v F f = f (w64 (a * 2 ^ k % 18446744073709551616)) F := by
  have h : binV .shl (toV (w64 a)) (toV v) = some (.int .u64 (Int.ofNat (a * 2 ^ k % 18446744073709551616))) := by
    have hm : (min (Int.ofNat k).toNat (IntKind.bits .u64)) = k := by simp [IntKind.bits]; omega
    rcases hv with rfl | rfl <;>
    · simp only [w64, toV, binV, shop]
      rw [if_neg (by simp), hm]
      show some (Value.int .u64 (IntKind.wrap .u64 (((a : Nat) : Int) * (2 : Int) ^ k))) = _
      rw [show ((a : Nat) : Int) * (2 : Int) ^ k = ((a * 2 ^ k : Nat) : Int) by norm_cast, wrap_u64']
      rfl
  rw [uSlow_n h]; rfl
theorem uOr_w (a b : Nat) (ha : a < 18446744073709551616) (hb : b < 18446744073709551616) : uSlow .or (w64 a) (w64 b) F f = f (w64 (a ||| b)) F := by
  have h : binV .or (toV (w64 a)) (toV (w64 b)) = some (.int .u64 (Int.ofNat (a ||| b))) := by
    simp only [w64, toV, binV, iop, if_true]
    congr 2
    show IntKind.wrap .u64 (((BitVec.ofInt 64 (Int.ofNat a) ||| BitVec.ofInt 64 (Int.ofNat b)).toNat : Nat) : Int) = _
    have e : (BitVec.ofInt 64 (Int.ofNat a) ||| BitVec.ofInt 64 (Int.ofNat b)).toNat = a ||| b := by
      rw [BitVec.toNat_or]
      simp
      rw [Nat.mod_eq_of_lt ha, Nat.mod_eq_of_lt hb]
    rw [e, wrap_u64 (Nat.or_lt_two_pow (n := 64) ha hb)]
    rfl
  rw [uSlow_n h]; rfl
theorem uDiv_nn (a b : Nat) (ha : a ≤ 9223372036854775807) (hb : b ≠ 0) : uQuo true .quo (.n a) (.n b) F f = f (.n (a / b)) F := by
  have e : uQuo true .quo (.n a) (.n b) F f = cn (Nat.beq b 0) .no (uNum (Nat.div a b) F f) := rfl
  rw [e, beqU, decide_eq_false hb]
  exact uNum_le F f (Nat.le_trans (Nat.div_le_self a b) ha)
end
end Go.Proofs.Ythclmjelknibhaa.Ev
/- Slices of bytes. -/
namespace Go.Proofs.Ythclmjelknibhaa.Ev
open Go Go.RowKit
set_option linter.unusedVariables false
set_option linter.constructorNameAsVariable false
set_option linter.unusedSimpArgs false
set_option linter.unusedSectionVars false

/-- A slice whose bytes are known. -/
def By (F : FAW) (v : FV) (l : List Nat) : Prop :=
  (v = .nl ∧ l = []) ∨ ∃ i o c el m ro cells, v = .l i o l.length c ∧ l.length ≤ c ∧ F.row i = some (cells, el, 1, m, ro) ∧ (cells.drop o).take l.length = l.map FV.b ∧ o + l.length ≤ cells.length
theorem By.sl {F : FAW} {v : FV} {l : List Nat} (h : By F v l) : Sl F v (l.map FV.b) := by
  rcases h with ⟨rfl, rfl⟩ | ⟨i, o, c, el, m, ro, cells, rfl, h1, h2, h3, h4⟩
  · exact .inl ⟨rfl, rfl⟩
  · exact .inr ⟨i, o, c, el, m, ro, cells, by rw [List.length_map], h2, by rw [List.length_map]; exact h3, by rw [List.length_map]; exact h4⟩
theorem By.fi {F : FAW} {v : FV} {l : List Nat} (h : By F v l) : Fi v := by
  rcases h with ⟨rfl, _⟩ | ⟨i, o, c, el, m, ro, cells, rfl, _⟩
  · exact Fi.nl
  · exact Fi.l _ _ _ _
theorem By.len {F : FAW} {v : FV} {l : List Nat} (h : By F v l) (G : FAW) (f : KU) : uLen false v G f = f (.n l.length) G := by
  rw [h.sl.len, List.length_map]
theorem By.get {F : FAW} {v : FV} {l : List Nat} (h : By F v l) {k x : Nat} (hk : l[k]? = some x) (f : KU) : (uIad 1 v (.n k) F fun v0 S => uLd none v0 S f) = f (.b x) F :=
  h.sl.get (by rw [List.getElem?_map, hk]; rfl) (Fi.b x) f
theorem By.std {F F' : FAW} {v : FV} {l : List Nat} (h : By F v l) {A B : Nat → Prop} (hs : Std F F' A B) (hA : ∀ i r e m o, F.row i = some (r, e, 1, m, o) → ¬ A i) : By F' v l := by
  rcases h with h | ⟨i, o, c, el, m, ro, cells, h1, h0, h2, h3, h4⟩
  · exact .inl h
  · exact .inr ⟨i, o, c, el, m, ro, cells, h1, h0, hs.row _ _ (hA _ _ _ _ _ h2) h2, h3, h4⟩
theorem optU_s (k d : Nat) (g : Nat → RU) : optU (some (.n k)) d g = g k := by
  show fN k g = _
  rw [fN_eq]
theorem optU_o (d : Nat) (g : Nat → RU) : optU none d g = g d := by
  show fN d g = _
  rw [fN_eq]
theorem By.cut {F : FAW} {v : FV} {l : List Nat} (h : By F v l) {a b : Nat} (h1 : a ≤ b) (h2 : b ≤ l.length) : ∃ w, (∀ f : KU, uSlV 1 v (some (.n a)) (some (.n b)) none F f = f w F) ∧ By F w ((l.drop a).take (b - a)) := by
  rcases h with ⟨rfl, rfl⟩ | ⟨i, o, c, el, m, ro, cells, rfl, h0, hr, ht, hle⟩
  · have hb : b = 0 := by simpa using h2
    have ha : a = 0 := by omega
    subst hb ha
    exact ⟨.nl, fun f => rfl, .inl ⟨rfl, rfl⟩⟩
  · have hlen : ((l.drop a).take (b - a)).length = b - a := by rw [List.length_take, List.length_drop]; omega
    refine ⟨.l i (o + a) (b - a) (c - a), fun f => ?_, .inr ⟨i, o + a, c - a, el, m, ro, cells, by rw [hlen], by rw [hlen]; omega, hr, ?_, by rw [hlen]; omega⟩⟩
    · show uSlVL 1 i o l.length c (some (.n a)) (some (.n b)) none F f = _
      unfold uSlVL
      rw [findH_get _ hr]
      have e1 : an (Nat.ble a b) (an (Nat.ble b c) (an (Nat.ble c c) (nt (an false false)))) = true := by
        simp only [an_eq, nt_eq, bleU]
        simp [h1, show b ≤ c by omega]
      rw [optU_s, optU_s, optU_o]
      show cn (Nat.beq 1 1) (cn (an (Nat.ble a b) (an (Nat.ble b c) (an (Nat.ble c c) (nt (an false false))))) (fN (Nat.add o (Nat.mul a 1)) fun o => fN (Nat.sub b a) fun n => fN (Nat.sub c a) fun c => f (.l i o n c) F) .no) .no = _
      rw [e1, show Nat.beq 1 1 = true from rfl, cn_true, cn_true, fN_eq, fN_eq, fN_eq]
      show f (.l i (o + a * 1) (b - a) (c - a)) F = _
      rw [Nat.mul_one]
    · rw [hlen, ← List.drop_drop, List.map_take, List.map_drop, ← ht, List.drop_take, List.take_take, Nat.min_eq_left (by omega)]
theorem By.cut1 {F : FAW} {v : FV} {l : List Nat} (h : By F v l) {a : Nat} (h2 : a ≤ l.length) : ∃ w, (∀ f : KU, uSlV 1 v (some (.n a)) none none F f = f w F) ∧ By F w (l.drop a) := by
  obtain ⟨w, h3, h4⟩ := h.cut h2 (Nat.le_refl _)
  refine ⟨w, fun f => ?_, by rw [List.take_of_length_le (by rw [List.length_drop]; omega)] at h4; exact h4⟩
  rw [← h3 f]
  rcases h with ⟨rfl, rfl⟩ | ⟨i, o, c, el, m, ro, cells, rfl, h0, hr, ht, hle⟩
  · rfl
  · rfl
theorem bytesU_all : ∀ (cells : List FV) (l : List Nat) (g : List Nat → RU), cells.take l.length = l.map FV.b → bytesU cells l.length g = g l
  | _, [], g, _ => by cases ‹List FV› <;> rfl
  | [], x :: l, g, h => by simp at h
  | a :: cells, x :: l, g, h => by
    simp only [List.length_cons, List.take_succ_cons, List.map_cons, List.cons.injEq] at h
    obtain ⟨rfl, h⟩ := h
    exact bytesU_all cells l (fun r => g (x :: r)) h
theorem By.str {F : FAW} {v : FV} {l : List Nat} (h : By F v l) (f : KU) : uCvBS v F f = f (.s l) F := by
  rcases h with ⟨rfl, rfl⟩ | ⟨i, o, c, el, m, ro, cells, rfl, h0, hr, ht, hle⟩
  · rfl
  · show (findH F.h i fun c _ _ _ _ => dropU c o fun r => bytesU r l.length fun bs => f (.s bs) F) = _
    rw [findH_get _ hr, dropU_le _ (by omega), bytesU_all _ _ _ ht]
theorem SlB.by {F : FAW} {v : FV} {el m : Nat} {l : List Nat} (h : SlB F v el (l.map FV.b) m) : By F v l := by
  rcases h with ⟨h1, h2⟩ | ⟨_, i, mu, h2, h3, _⟩
  · exact .inl ⟨h2, by simpa using h1⟩
  · exact .inr ⟨i, 0, _, el, m, false, _, by rw [h2, List.length_map], Nat.le_refl _, h3, by rw [List.drop_zero, List.take_of_length_le (by simp)], by simp⟩
theorem uNilc_p (i o : Nat) (F : FAW) (f : KU) : uNilc (.p i o) F f = f (.p i o) F := rfl
theorem uFad_p (k i o : Nat) (F : FAW) (f : KU) : uFad k (.p i o) F f = f (.p i (o + k)) F := by
  show fN (Nat.add o k) (fun o => f (.p i o) F) = _
  rw [fN_eq]; rfl
end Go.Proofs.Ythclmjelknibhaa.Ev
/- Slices that grow by append, elements of any size; empty ones too. -/
namespace Go.Proofs.Ythclmjelknibhaa.Ev
open Go Go.RowKit
set_option linter.unusedVariables false
set_option linter.constructorNameAsVariable false
set_option linter.unusedSimpArgs false
set_option linter.unusedSectionVars false

/-- A slice that was built by append: n elements of es cells; m: its family. -/
def SlE (F : FAW) (v : FV) (el es n : Nat) (cs : List FV) (m : Nat) : Prop :=
  (v = .nl ∧ cs = [] ∧ n = 0) ∨ ∃ i mu, v = .l i 0 n n ∧ cs.length = n * es ∧ F.row i = some (cs, el, es, m, false) ∧ F.fam m = some (mu, cs.length)
theorem SlE.nil (F : FAW) (el es m : Nat) : SlE F .nl el es 0 [] m := .inl ⟨rfl, rfl, rfl⟩
theorem SlE.length {F : FAW} {v : FV} {el es n : Nat} {cs : List FV} {m : Nat} (h : SlE F v el es n cs m) : cs.length = n * es := by
  rcases h with ⟨_, rfl, rfl⟩ | ⟨i, mu, _, h, _⟩
  · simp
  · exact h
theorem SlE.fi {F : FAW} {v : FV} {el es n : Nat} {cs : List FV} {m : Nat} (h : SlE F v el es n cs m) : Fi v := by
  rcases h with ⟨rfl, _⟩ | ⟨i, mu, rfl, _⟩
  · exact Fi.nl
  · exact Fi.l _ _ _ _
theorem SlE.len {F : FAW} {v : FV} {el es n : Nat} {cs : List FV} {m : Nat} (h : SlE F v el es n cs m) (G : FAW) (f : KU) : uLen false v G f = f (.n n) G := by
  rcases h with ⟨rfl, _, rfl⟩ | ⟨i, mu, rfl, _⟩ <;> rfl
theorem SlE.std {F F' : FAW} {v : FV} {el es n : Nat} {cs : List FV} {m : Nat} (h : SlE F v el es n cs m) {A B : Nat → Prop} (hs : Std F F' A B) (hA : ∀ i r e, F.row i = some (r, e, es, m, false) → ¬ A i) (hB : v ≠ .nl → ¬ B m) : SlE F' v el es n cs m := by
  rcases h with h | ⟨i, mu, h2, h1, h3, h4⟩
  · exact .inl h
  · exact .inr ⟨i, mu, h2, h1, hs.row _ _ (hA _ _ _ h3) h3, hs.fam _ _ (hB (by rw [h2]; simp)) h4⟩
theorem SlE.lt {F : FAW} {v : FV} {el es n : Nat} {cs : List FV} {m : Nat} (h : SlE F v el es n cs m) (hF : Wf F) (hne : v ≠ .nl) : m < F.x := by
  rcases h with ⟨h1, _⟩ | ⟨i, mu, _, _, _, h4⟩
  · exact absurd h1 hne
  · exact hF.fam _ _ h4
theorem SlE.by {F : FAW} {v : FV} {el n m : Nat} {l : List Nat} (h : SlE F v el 1 n (l.map FV.b) m) : By F v l := by
  rcases h with ⟨h1, h2, _⟩ | ⟨i, mu, h2, h1, h3, _⟩
  · exact .inl ⟨h1, by simpa using h2⟩
  · rw [List.length_map, Nat.mul_one] at h1
    exact .inr ⟨i, 0, _, el, m, false, _, by rw [h2, h1], by rw [h1]; exact Nat.le_refl _, h3, by rw [List.drop_zero, List.take_of_length_le (by simp)], by simp⟩
theorem SlB.e {F : FAW} {v : FV} {el : Nat} {cs : List FV} {m : Nat} (h : SlB F v el cs m) : SlE F v el 1 cs.length cs m := by
  rcases h with ⟨rfl, rfl⟩ | ⟨_, i, mu, h2, h3, h4⟩
  · exact .inl ⟨rfl, rfl, rfl⟩
  · exact .inr ⟨i, mu, h2, by rw [Nat.mul_one], h3, h4⟩
/-- A literal of nothing. -/
theorem uLit0 (el es : Nat) (z : List FV) (F : FAW) (f : KU) : uLitF el es z 0 [] F f = f (.l F.x 0 0 0) (F.new [] el es) := by
  have e : uLitF el es z 0 [] F f = newU [] el es F fun i F' => f (.l i 0 0 0) F' := rfl
  rw [e, newU_new]
theorem SlE.lit0 (F : FAW) (el es : Nat) : SlE (F.new [] el es) (.l F.x 0 0 0) el es 0 [] F.x := .inr ⟨F.x, false, rfl, by simp, by rw [row_new, if_pos rfl], by rw [fam_new, if_pos rfl]⟩
theorem app_k {F : FAW} (hF : Wf F) {v : FV} {el es n : Nat} {cs : List FV} {m : Nat} (h : SlE F v el es n cs m) (hcs : ∀ c ∈ cs, Fi c) {k : Nat} {ds : List FV} (hk : ds.length = k * es) (hds : ∀ c ∈ ds, Fi c) {bytes : Nat}
    (hb : (2 * (n + k) + 192) * bytes ≤ 281474976710656) (hl : n + k ≤ 140737488355328) :
    ∃ v' F' m', (∀ f : KU, allU ds (eL v (fun i o l c => appSU el es bytes i o l c k ds F f) (appNU el es bytes k ds F f) (fun _ => .no) (fun _ => .no) .no) = f v' F') ∧ SlE F' v' el es (n + k) (cs ++ ds) m' ∧ Std F F' (fun _ => False) (fun q => q = m ∧ v ≠ .nl) ∧ Wf F' ∧ (v' ≠ .nl → (m' = m ∧ v ≠ .nl) ∨ F.x ≤ m') ∧ (v ≠ .nl → v' ≠ .nl) := by
  by_cases h0 : k = 0
  · subst h0
    have : ds = [] := List.length_eq_zero_iff.mp (by rw [hk, Nat.zero_mul])
    subst this
    refine ⟨v, F, m, fun f => ?_, by rw [List.append_nil, Nat.add_zero]; exact h, Std.refl _ _ _, hF, fun hne => .inl ⟨rfl, hne⟩, fun h => h⟩
    rcases h with ⟨rfl, _, _⟩ | ⟨i, mu, rfl, _⟩ <;> rfl
  · rcases h with ⟨rfl, rfl, rfl⟩ | ⟨i, mu, rfl, hn, hi, hm⟩
    · refine ⟨.l F.x 0 k k, F.new ds el es, F.x, fun f => ?_, .inr ⟨F.x, false, by rw [Nat.zero_add], by rw [List.nil_append, hk, Nat.zero_add], by rw [row_new, if_pos rfl]; simp, by rw [fam_new, if_pos rfl]; simp⟩, Std.new hF _ _ _ _ _, hF.new _ _ _, fun _ => .inr (Nat.le_refl _), fun h => absurd rfl h⟩
      rw [allU_all _ hds]
      show appNU el es bytes k ds F f = _
      unfold appNU
      rw [beqU, decide_eq_false h0]
      show cn (fitU k bytes) (newU ds el es F fun i F' => f (.l i 0 k k) F') .no = _
      rw [fitU_le (by simpa using hb) (by simpa using hl), cn_true, newU_new]
    · refine ⟨.l F.x 0 (n + k) (n + k), F.grown m (cs ++ ds) el es false, m, fun f => ?_, .inr ⟨F.x, true, rfl, by rw [List.length_append, hn, hk, Nat.add_mul], by rw [row_grown, if_pos rfl], by rw [fam_grown, if_pos rfl, hm]; rfl⟩, ?_, ?_, fun _ => .inl ⟨rfl, by simp⟩, fun _ => by simp⟩
      · rw [allU_all _ hds]
        show appSU el es bytes i 0 n n k ds F f = _
        unfold appSU
        rw [beqU, decide_eq_false h0]
        show (findH F.h i fun cc el' es' fm ro => cn (an (nt ro) (an (Nat.beq es' es) (Nat.beq el' el))) (Bool.rec (motive := fun _ => RU) (appGrU es bytes 0 n k cc ds el fm F f) (appInU es i 0 n n k cc ds fm F f) (Nat.ble (Nat.add n k) n)) .no) = _
        rw [findH_get _ hi, an_eq, an_eq, nt_eq, beqU, beqU, bleU]
        simp only [decide_true, Bool.not_false, Bool.and_self, cn_true]
        rw [decide_eq_false (show ¬ Nat.add n k ≤ n by show ¬ n + k ≤ n; omega)]
        show appGrU es bytes 0 n k cs ds el m F f = _
        have e2 : appGrU es bytes 0 n k cs ds el m F f = fN (Nat.mul n es) fun j => rowU cs j fun mm => cn (fitU (Nat.add n k) bytes) (growU F m 0 j mm ds el es false fun x F' => fN (Nat.add n k) fun n => f (.l x 0 n n) F') .no := by
          unfold appGrU
          congr 1
          funext j
          unfold rowAtU
          rw [dropU_le _ (by omega)]; rfl
        have e3 : Nat.mul n es = cs.length := hn.symm
        have e5 : Nat.add n k = n + k := rfl
        rw [e2, fN_eq, e3, rowU_all _ hcs, e5, fitU_le hb hl, cn_true]
        unfold growU
        rw [catU_eq, fN_eq, lenU_eq, findF_get _ hm, ltN_eq]
        have e4 : Nat.add 0 cs.length = cs.length := Nat.zero_add _
        rw [e4, decide_eq_false (by omega)]
        show growK F m (cs ++ ds) el es false (cs ++ ds).length _ = _
        unfold growK
        rw [fN_eq, setF_get _ _ _ _ hm]
        simp only [fN_eq]
        rfl
      · refine ⟨fun j r _ e => by rw [row_grown, if_neg (by have := hF.row j r e; omega)]; exact e, fun j r hj e => ?_, fun j r e => by rw [mp_grown]; exact e, Nat.le_succ _⟩
        rw [fam_grown, if_neg (fun q => hj ⟨q, by simp⟩)]; exact e
      · have hx : (F.grown m (cs ++ ds) el es false).x = F.x + 1 := rfl
        refine ⟨⟨Nat.lt_succ_of_lt (hF.fam _ _ hm), hF.own.mono (Nat.le_succ _)⟩, fun j r e => ?_, fun j r e => ?_, fun j r e => ?_⟩
        · rw [row_grown] at e; rw [hx]
          split at e
          · omega
          · have := hF.row j r e; omega
        · rw [fam_grown] at e; rw [hx]
          split at e
          · rename_i q; subst q; have := hF.fam _ _ hm; omega
          · have := hF.fam j r e; omega
        · rw [mp_grown] at e; rw [hx]
          have := hF.mp j r e; omega
theorem app_e {F : FAW} (hF : Wf F) {v : FV} {el es n : Nat} {cs : List FV} {m : Nat} (h : SlE F v el es n cs m) (hcs : ∀ c ∈ cs, Fi c) {w : FV} {k : Nat} {ds : List FV} (hd : ∀ g : Nat → List FV → RU, srcU F es w g = g k ds) (hk : ds.length = k * es) (hds : ∀ c ∈ ds, Fi c) {bytes : Nat}
    (hb : (2 * (n + k) + 192) * bytes ≤ 281474976710656) (hl : n + k ≤ 140737488355328) :
    ∃ v' F' m', (∀ f : KU, uApp el es bytes v w F f = f v' F') ∧ SlE F' v' el es (n + k) (cs ++ ds) m' ∧ Std F F' (fun _ => False) (fun q => q = m ∧ v ≠ .nl) ∧ Wf F' ∧ (v' ≠ .nl → (m' = m ∧ v ≠ .nl) ∨ F.x ≤ m') ∧ (v ≠ .nl → v' ≠ .nl) := by
  obtain ⟨v', F', m', h1, h2⟩ := app_k hF h hcs hk hds hb hl
  refine ⟨v', F', m', fun f => ?_, h2⟩
  unfold uApp
  rw [hd]
  exact h1 f
theorem repU_rep (z : FV) : ∀ n : Nat, repU [z] n = List.replicate n z
  | 0 => rfl
  | n + 1 => by
    show [z] ++ repU [z] n = _
    rw [repU_rep z n]; rfl
/-- Noughts are put behind. -/
theorem appz_e {F : FAW} (hF : Wf F) {v : FV} {el n : Nat} {cs : List FV} {m : Nat} (h : SlE F v el 1 n cs m) (hcs : ∀ c ∈ cs, Fi c) (z : FV) (hz : Fi z) (k : Nat) {bytes : Nat}
    (hb : (2 * (n + k) + 192) * bytes ≤ 281474976710656) (hl : n + k ≤ 140737488355328) :
    ∃ v' F' m', (∀ f : KU, uAppzF el 1 bytes [z] v (.n k) F f = f v' F') ∧ SlE F' v' el 1 (n + k) (cs ++ List.replicate k z) m' ∧ Std F F' (fun _ => False) (fun q => q = m ∧ v ≠ .nl) ∧ Wf F' ∧ (v' ≠ .nl → (m' = m ∧ v ≠ .nl) ∨ F.x ≤ m') ∧ (v ≠ .nl → v' ≠ .nl) := by
  obtain ⟨v', F', m', h1, h2⟩ := app_k hF h hcs (k := k) (ds := List.replicate k z) (by rw [List.length_replicate, Nat.mul_one]) (fun c hc => by rw [List.eq_of_mem_replicate hc]; exact hz) hb hl
  refine ⟨v', F', m', fun f => ?_, h2⟩
  have e : uAppzF el 1 bytes [z] v (.n k) F f = cn (an (Nat.ble k 140737488355328) (Nat.ble (Nat.mul k bytes) 281474976710656)) (cn (Nat.beq (lenU (repU [z] k)) (Nat.mul k 1)) (allU (repU [z] k) (eL v (fun i o l c => appSU el 1 bytes i o l c k (repU [z] k) F f) (appNU el 1 bytes k (repU [z] k) F f) (fun _ => .no) (fun _ => .no) .no)) .no) .no := rfl
  have hkb : k * bytes ≤ 281474976710656 := Nat.le_trans (Nat.mul_le_mul_right _ (by omega)) hb
  have e1 : an (Nat.ble k 140737488355328) (Nat.ble (Nat.mul k bytes) 281474976710656) = true := by
    rw [an_eq, bleU, bleU, decide_eq_true (show k ≤ 140737488355328 by omega), decide_eq_true (show Nat.mul k bytes ≤ 281474976710656 from hkb)]; rfl
  have e2 : Nat.beq (lenU (repU [z] k)) (Nat.mul k 1) = true := by
    rw [beqU, lenU_eq, repU_rep, List.length_replicate]
    exact decide_eq_true (Nat.mul_one k).symm
  rw [e, e1, cn_true, e2, cn_true, repU_rep]
  exact h1 f
/-- What was there stands, when a family that is new is written. -/
theorem Std.newfam {F F1 F2 : FAW} {m : Nat} (hF : Wf F) (h : Std F F1 (fun _ => False) (fun _ => False)) (k : Std F1 F2 (fun j => ∃ r e s o, F1.row j = some (r, e, s, m, o)) (fun q => q = m)) (hm : F.x ≤ m) : Std F F2 (fun _ => False) (fun _ => False) := by
  refine ⟨fun j r _ e => k.row j r (fun ⟨c, e', s, o, q⟩ => ?_) (h.row j r (fun q => q) e), fun j r _ e => k.fam j r (fun q => ?_) (h.fam j r (fun q => q) e), fun j r e => k.mp j r (h.mp j r e), Nat.le_trans h.x k.x⟩
  · rw [h.row j r (fun q => q) e] at q
    simp only [Option.some.injEq] at q
    subst q
    have : m < F.x := hF.own.get e
    omega
  · have := hF.fam _ _ e
    omega
/-- What came in stands, whatever was done to what is new. -/
theorem Std.fresh {F F1 F2 : FAW} {A' B' : Nat → Prop} (hF : Wf F) (h : Std F F1 (fun _ => False) (fun _ => False)) (k : Std F1 F2 A' B') (hA : ∀ j, j < F.x → ¬ A' j) (hB : ∀ j, j < F.x → ¬ B' j) : Std F F2 (fun _ => False) (fun _ => False) :=
  ⟨fun j r _ e => k.row j r (hA j (hF.row j r e)) (h.row j r (fun q => q) e), fun j r _ e => k.fam j r (hB j (hF.fam j r e)) (h.fam j r (fun q => q) e), fun j r e => k.mp j r (h.mp j r e), Nat.le_trans h.x k.x⟩
theorem lessH_cell (fm i j : Nat) (c : List FV) (e s m : Nat) (o : Bool) (r : HL) : lessH fm i (.cell j c e s m o r) = if m = fm ∧ j ≠ i then lessH fm i r else .cell j c e s m o (lessH fm i r) := by
  have h : lessH fm i (.cell j c e s m o r) = Bool.rec (motive := fun _ => HL) (.cell j c e s m o (lessH fm i r)) (lessH fm i r) (an (Nat.beq m fm) (nt (Nat.beq i j))) := rfl
  rw [h, an_eq, nt_eq, beqU, beqU]
  by_cases h1 : m = fm
  · by_cases h2 : i = j
    · rw [if_neg (by rintro ⟨_, h⟩; exact h h2.symm), decide_eq_true h1, decide_eq_true h2]; rfl
    · rw [if_pos ⟨h1, fun h => h2 h.symm⟩, decide_eq_true h1, decide_eq_false h2]; rfl
  · rw [if_neg (by rintro ⟨h, _⟩; exact h1 h), decide_eq_false h1]; rfl
theorem getH_less (fm i j : Nat) : ∀ (h : HL) (c : List FV) (e s m : Nat) (o : Bool), getH h j = some (c, e, s, m, o) → (j = i ∨ m ≠ fm) → getH (lessH fm i h) j = some (c, e, s, m, o)
  | .nil, c, e, s, m, o, h, _ => by cases h
  | .cell k c' e' s' m' o' r, c, e, s, m, o, h, hj => by
    simp only [getH] at h
    rw [lessH_cell]
    by_cases hk : j = k
    · rw [if_pos hk] at h
      simp only [Option.some.injEq, Prod.mk.injEq] at h
      obtain ⟨rfl, rfl, rfl, rfl, rfl⟩ := h
      rw [if_neg (by rintro ⟨h1, h2⟩; rcases hj with h | h
                     · exact h2 (hk ▸ h)
                     · exact h h1)]
      simp only [getH, if_pos hk]
    · rw [if_neg hk] at h
      split
      · exact getH_less fm i j r _ _ _ _ _ h hj
      · simp only [getH, if_neg hk]; exact getH_less fm i j r _ _ _ _ _ h hj
  | .map k es r, c, e, s, m, o, h, hj => getH_less fm i j r c e s m o h hj
theorem getH_less_some (fm i j : Nat) : ∀ (h : HL) r, getH (lessH fm i h) j = some r → ∃ r', getH h j = some r'
  | .nil, r, h => by cases h
  | .cell k c' e' s' m' o' t, r, h => by
    rw [lessH_cell] at h
    simp only [getH]
    by_cases hk : j = k
    · exact ⟨_, by rw [if_pos hk]⟩
    · rw [if_neg hk]
      split at h
      · exact getH_less_some fm i j t r h
      · simp only [getH, if_neg hk] at h; exact getH_less_some fm i j t r h
  | .map k es t, r, h => getH_less_some fm i j t r h
theorem getMp_less (fm i j : Nat) : ∀ h : HL, getMp (lessH fm i h) j = getMp h j
  | .nil => rfl
  | .cell k c' e' s' m' o' t => by
    rw [lessH_cell]
    split
    · exact getMp_less fm i j t
    · simp only [getMp]; exact getMp_less fm i j t
  | .map k es t => by
    show getMp (.map k es (lessH fm i t)) j = _
    simp only [getMp]
    rw [getMp_less fm i j t]
theorem Own.less {n fm i : Nat} : ∀ {h : HL}, Own n h → Own n (lessH fm i h)
  | .nil, h => h
  | .cell k c e s m o t, h => by
    rw [lessH_cell]
    split
    · exact Own.less h.2
    · exact ⟨h.1, Own.less h.2⟩
  | .map k es t, h => Own.less (h := t) h
/-- An element is stored in a slice that was built by append. -/
theorem st_e {F : FAW} (hF : Wf F) {v : FV} {el n : Nat} {cs : List FV} {m : Nat} (h : SlE F v el 1 n cs m) (hcs : ∀ c ∈ cs, Fi c) {k : Nat} (hk : k < n) {w : FV} (hw : Fi w) :
    ∃ F', (∀ f : KU, (uIad 1 v (.n k) F fun p S => uSt 1 p w S f) = f (.u []) F') ∧ SlE F' v el 1 n (cs.set k w) m ∧ F'.x = F.x ∧ Std F F' (fun j => ∃ r e s o, F.row j = some (r, e, s, m, o)) (fun q => q = m) ∧ Wf F' := by
  rcases h with ⟨_, _, rfl⟩ | ⟨i, mu, rfl, hn, hi, hm⟩
  · omega
  · rw [Nat.mul_one] at hn
    obtain ⟨a, ha⟩ : ∃ a, cs[k]? = some a := ⟨cs[k]'(by omega), List.getElem?_eq_getElem (by omega)⟩
    have hfa := hcs a (List.mem_of_getElem? ha)
    have e0 : ∀ f : KU, (uIad 1 (.l i 0 n n) (.n k) F fun p S => uSt 1 p w S f) = putU F i m (cs.set k w) fun F' => f (.u []) F' := fun f => by
      rw [uIad_l _ _ hk, Nat.zero_add, Nat.mul_one]
      show uStR 1 i k (cellsU w) F f = _
      rw [hw.2.2]
      unfold uStR
      rw [findH_get _ hi, cn_false]
      show stAtU cs k [w] (fun d => putU F i m d fun F' => f (.u []) F') = _
      rw [stAtU_one hw _ ha hfa]
    cases mu with
    | false =>
      refine ⟨F.put i (cs.set k w), fun f => ?_, .inr ⟨i, false, rfl, by rw [List.length_set, hn, Nat.mul_one], by rw [row_put, if_pos rfl, hi]; rfl, by rw [fam_put, List.length_set]; exact hm⟩, rfl, ⟨fun j r hj e => ?_, fun j r _ e => e, fun j r e => by rw [mp_put]; exact e, Nat.le_refl _⟩, hF.put _ _⟩
      · rw [e0]
        exact putU_put hi hm (by rw [List.length_set]; exact Nat.le_refl _) _
      · rw [row_put, if_neg (fun q => hj ⟨cs, el, 1, false, by rw [q]; exact hi⟩)]; exact e
    | true =>
      have g1 : getH (lessH m i F.h) i = some (cs, el, 1, m, false) := getH_less m i i F.h _ _ _ _ _ hi (.inl rfl)
      refine ⟨⟨putHL i (cs.set k w) (lessH m i F.h), putFL m false cs.length F.fs, F.x⟩, fun f => ?_, .inr ⟨i, false, rfl, by rw [List.length_set, hn, Nat.mul_one], ?_, ?_⟩, rfl, ⟨fun j r hj e => ?_, fun j r hj e => ?_, fun j r e => ?_, Nat.le_refl _⟩, ⟨(hF.own.less).put, fun j r e => ?_, fun j r e => ?_, fun j r e => ?_⟩⟩
      · rw [e0]
        unfold putU
        rw [findF_get _ hm]
        show (fN (lenU (cs.set k w)) fun n => setH i (cs.set k w) (lessH m i F.h) fun h => setF m false (Bool.rec (motive := fun _ => Nat) n cs.length (Nat.ble n cs.length)) F.fs fun fs => f (.u []) ⟨h, fs, F.x⟩) = _
        rw [fN_eq, lenU_eq, setH_get _ _ _ g1, bleU, decide_eq_true (by rw [List.length_set]; exact Nat.le_refl _)]
        show setF m false cs.length F.fs _ = _
        rw [setF_get _ _ _ _ hm]
      · show getH (putHL i (cs.set k w) (lessH m i F.h)) i = _
        rw [getH_put, if_pos rfl, g1]; rfl
      · show getFm (putFL m false cs.length F.fs) m = _
        rw [getFm_put, if_pos rfl, List.length_set]
        have : getFm F.fs m = some (true, cs.length) := hm
        rw [this]; rfl
      · show getH (putHL i (cs.set k w) (lessH m i F.h)) j = _
        have hji : j ≠ i := fun q => hj ⟨cs, el, 1, false, by rw [q]; exact hi⟩
        rw [getH_put, if_neg hji]
        obtain ⟨c, e', s, m', o⟩ := r
        exact getH_less m i j F.h c e' s m' o e (.inr fun q => hj ⟨c, e', s, o, by rw [← q]; exact e⟩)
      · show getFm (putFL m false cs.length F.fs) j = _
        rw [getFm_put, if_neg hj]; exact e
      · show getMp (putHL i (cs.set k w) (lessH m i F.h)) j = _
        rw [getMp_put, getMp_less]; exact e
      · have e : getH (putHL i (cs.set k w) (lessH m i F.h)) j = some r := e
        rw [getH_put] at e
        split at e
        · rename_i q; rw [q]; exact hF.row _ _ hi
        · obtain ⟨r', hr'⟩ := getH_less_some m i j F.h r e
          exact hF.row j r' hr'
      · have e : getFm (putFL m false cs.length F.fs) j = some r := e
        rw [getFm_put] at e
        split at e
        · rename_i q; rw [q]; exact hF.fam _ _ hm
        · exact hF.fam j r e
      · have e : getMp (putHL i (cs.set k w) (lessH m i F.h)) j = some r := e
        rw [getMp_put, getMp_less] at e
        exact hF.mp j r e
theorem fi_b {l : List Nat} : ∀ c ∈ l.map FV.b, Fi c := fun c hc => by obtain ⟨b, _, rfl⟩ := List.mem_map.mp hc; exact Fi.b b
theorem By.src {F : FAW} {v : FV} {l : List Nat} (h : By F v l) (g : Nat → List FV → RU) : srcU F 1 v g = g l.length (l.map FV.b) := by
  rw [h.sl.src fi_b, List.length_map]
/-- A text's bytes. -/
def bytesOf (a : ByteArray) : List Nat := a.data.toList.map UInt8.toNat
theorem bytesOf_bs (a : ByteArray) : Bs (bytesOf a) := by
  intro x hx
  obtain ⟨b, _, rfl⟩ := List.mem_map.mp hx
  exact b.toNat_lt
theorem toV_bytes (a : ByteArray) : toV (.s (bytesOf a)) = .string a := by
  simp only [toV, bytesOf, List.map_map]
  congr 1
  cases a with
  | mk d =>
    congr 1
    apply Array.ext'
    simp only [Function.comp_def, UInt8.ofNat_toNat, List.map_id']
theorem map_num8 {z : List Int} (h : ∀ n ∈ z, (Lit.int .u8 n).wf = true) : z.map (numV .u8) = (z.map Int.toNat).map FV.b ∧ Bs (z.map Int.toNat) := by
  refine ⟨?_, fun x hx => ?_⟩
  · rw [List.map_map]
    exact List.map_congr_left fun n hn => (numV_u8 (h n hn)).1
  · obtain ⟨n, hn, rfl⟩ := List.mem_map.mp hx
    exact (numV_u8 (h n hn)).2
inductive ListRel {α β : Type} (R : α → β → Prop) : List α → List β → Prop
  | nil : ListRel R [] []
  | cons {a b as bs} (h : R a b) (t : ListRel R as bs) : ListRel R (a :: as) (b :: bs)
theorem ListRel.length {α β : Type} {R : α → β → Prop} {xs : List α} {ys : List β} (h : ListRel R xs ys) : xs.length = ys.length := by
  induction h with
  | nil => rfl
  | cons h t ih => simp [ih]
theorem ListRel.get {α β : Type} {R : α → β → Prop} {xs : List α} {ys : List β} (h : ListRel R xs ys) : ∀ (i : Nat) (h1 : i < xs.length) (h2 : i < ys.length), R xs[i] ys[i] := by
  induction h with
  | nil => intro i h1; simp at h1
  | cons h t ih =>
    intro i h1 h2
    cases i with
    | zero => exact h
    | succ i => exact ih i (by simpa using h1) (by simpa using h2)
/-- Bytes, built by append. -/
abbrev BB (F : FAW) (v : FV) (l : List Nat) (m : Nat) : Prop := SlE F v 5 1 l.length (l.map FV.b) m
theorem app_bn {F : FAW} (hF : Wf F) {v : FV} {l : List Nat} {m : Nat} (h : BB F v l m) {w : FV} {d : List Nat} (hd : ∀ g : Nat → List FV → RU, srcU F 1 w g = g d.length (d.map FV.b)) (hl : l.length + d.length ≤ 100000000) :
    ∃ v' F' m', (∀ f : KU, uApp 5 1 1 v w F f = f v' F') ∧ BB F' v' (l ++ d) m' ∧ Std F F' (fun _ => False) (fun q => q = m ∧ v ≠ .nl) ∧ Wf F' ∧ (v' ≠ .nl → (m' = m ∧ v ≠ .nl) ∨ F.x ≤ m') ∧ (v ≠ .nl → v' ≠ .nl) := by
  obtain ⟨v', F', m', h1, h2, h3, h4, h5⟩ := app_e hF h fi_b hd (by rw [List.length_map, Nat.mul_one]) fi_b (bytes := 1) (by omega) (by omega)
  exact ⟨v', F', m', h1, by rw [← List.map_append, ← List.length_append] at h2; exact h2, h3, h4, h5⟩
theorem app_bb {F : FAW} (hF : Wf F) {v : FV} {l : List Nat} {m : Nat} (h : BB F v l m) {w : FV} {d : List Nat} (hd : ∀ g : Nat → List FV → RU, srcU F 1 w g = g d.length (d.map FV.b)) (hl : l.length + d.length ≤ 100000000) :
    ∃ v' F' m', (∀ f : KU, uApp 5 1 1 v w F f = f v' F') ∧ BB F' v' (l ++ d) m' ∧ Std F F' (fun _ => False) (fun q => q = m ∧ v ≠ .nl) ∧ Wf F' ∧ (v' ≠ .nl → (m' = m ∧ v ≠ .nl) ∨ F.x ≤ m') := by
  obtain ⟨v', F', m', h1, h2, h3, h4, h5, _⟩ := app_bn hF h hd hl
  exact ⟨v', F', m', h1, h2, h3, h4, h5⟩
theorem appz_bb {F : FAW} (hF : Wf F) {v : FV} {l : List Nat} {m : Nat} (h : BB F v l m) (k : Nat) (hl : l.length + k ≤ 100000000) :
    ∃ v' F' m', (∀ f : KU, uAppzF 5 1 1 [(.b 0)] v (.n k) F f = f v' F') ∧ BB F' v' (l ++ List.replicate k 0) m' ∧ Std F F' (fun _ => False) (fun q => q = m ∧ v ≠ .nl) ∧ Wf F' ∧ (v' ≠ .nl → (m' = m ∧ v ≠ .nl) ∨ F.x ≤ m') ∧ (v ≠ .nl → v' ≠ .nl) := by
  obtain ⟨v', F', m', h1, h2, h3⟩ := appz_e hF h fi_b (.b 0) (Fi.b 0) k (bytes := 1) (by omega) (by omega)
  refine ⟨v', F', m', h1, ?_, h3⟩
  have e : l.map FV.b ++ List.replicate k (FV.b 0) = (l ++ List.replicate k 0).map FV.b := by simp
  rw [e] at h2
  show SlE F' v' 5 1 (l ++ List.replicate k 0).length _ m'
  rw [List.length_append, List.length_replicate]
  exact h2
end Go.Proofs.Ythclmjelknibhaa.Ev
