/- Our operations at values, however told; their operands put by others. -/
import Derived.Test.YtgejdfhfgphcbaaEv27
namespace Go.Proofs.Ytgejdfhfgphcbaa.Ev
open Go Go.RowKit
set_option linter.unusedVariables false
set_option linter.unusedSimpArgs false
set_option linter.unusedSectionVars false

def EOp.runR (e : EOp) (ρ : Operand → Value) (S : AW) : Option Res :=
  let v (x : Option Value) : Option Res := match x with | some v => some (.val v S) | none => none
  match e with
  | .mov x => some (.val (ρ x) S)
  | .con x => some (.val x S)
  | .pick c a b => match ρ c with | .bool t => some (.val (if t then ρ a else ρ b) S) | _ => none
  | .bin op x y => v (binV op (ρ x) (ρ y))
  | .eqB neg x y => match ρ x, ρ y with | .bool a, .bool b => some (.val (.bool (if neg then !decide (a = b) else decide (a = b))) S) | _, _ => none
  | .eqN kind neg x y => match nilV kind (ρ x) (ρ y) with | some b => some (.val (.bool (if neg then !b else b)) S) | none => none
  | .eqA neg x y => match ρ x, ρ y with
    | .agg xs, .agg ys => match ceqs xs.toList ys.toList with | some b => some (.val (.bool (if neg then !b else b)) S) | none => none
    | _, _ => none
  | .un op x => v (unV op (ρ x))
  | .cvI k x => match ρ x with | .int _ n => some (.val (.int k (k.wrap n)) S) | _ => none
  | .cvS x => match ρ x with | .int _ n => some (.val (.string (Utf8.encode n)) S) | .string s => some (.val (.string s) S) | _ => none
  | .fld sz off x => match ρ x with
    | .agg cs => match sz with
      | some n => some (.val (.agg (cs.extract off (off + n))) S)
      | none => v cs[off]?
    | _ => none
  | .ext i x => match ρ x with | .tuple cs => v cs[i]? | _ => none
  | .build zero parts => match fillL zero (parts.map fun (o, s, x) => (o, s, ρ x)) with | some l => some (.val (.agg l.toArray) S) | none => none
  | .fad off x => match ρ x with | .pointer (some ⟨i, o, none⟩) => some (.val (.pointer (some ⟨i, o + off, none⟩)) S) | _ => none
  | .iad size x ix => match ρ x, ρ ix with
    | .slice (some ⟨i, o, none⟩) n _, .int _ k => if 0 ≤ k ∧ k < n then some (.val (.pointer (some ⟨i, o + k.toNat * size, none⟩)) S) else none
    | _, _ => none
  | .iadA ln size x ix => match ρ x, ρ ix with
    | .pointer (some ⟨i, o, none⟩), .int _ k => if 0 ≤ k ∧ k < ln then some (.val (.pointer (some ⟨i, o + k.toNat * size, none⟩)) S) else none
    | _, _ => none
  | .idxS x ix => match ρ x, ρ ix with
    | .string s, .int _ k => if 0 ≤ k then match s.data.toList[k.toNat]? with | some b => some (.val (.int .u8 b.toNat) S) | none => none else none
    | _, _ => none
  | .idxA ln size ag x ix => match ρ x, ρ ix with
    | .agg cs, .int _ k => if 0 ≤ k ∧ k < ln then
        (if ag then some (.val (.agg (cs.extract (k.toNat * size) (k.toNat * size + size))) S) else v cs[k.toNat * size]?) else none
    | _, _ => none
  | .slS x lo hi => match ρ x, oint (lo.map ρ), oint (hi.map ρ) with
    | .string s, some l, some h => match cutB s.size s.size l h none with | some (l, h, _) => some (.val (.string (s.extract l h)) S) | none => none
    | _, _, _ => none
  | .slV size x lo hi mm => match ρ x, oint (lo.map ρ), oint (hi.map ρ), oint (mm.map ρ) with
    | .slice none 0 0, some l, some h, some m => match cutB 0 0 l h m with | some _ => some (.val (.slice none 0 0) S) | none => none
    | .slice (some ⟨i, o, none⟩) n c, some l, some h, some m => match S.raw i with
      | some r => if r.es = size then match cutB n c l h m with
          | some (l, h, m) => some (.val (.slice (some ⟨i, o + l * size, none⟩) (h - l) (m - l)) S)
          | none => none
        else none
      | none => none
    | _, _, _, _ => none
  | .nilc x => match ρ x with | .pointer (some a) => some (.val (.pointer (some a)) S) | .func f a b => some (.val (.func f a b) S) | _ => none
  | .mkf f fs cs => some (.val (.func (.func f) (fs.map ρ).toArray (cs.map ρ).toArray) S)
  | .len str x => match str, ρ x with
    | true, .string s => some (.val (.int .i64 s.size) S)
    | false, .slice _ n _ => some (.val (.int .i64 n) S)
    | _, _ => none
  | .mx xs => v (mmV true (xs.map ρ))
  | .mn xs => v (mmV false (xs.map ρ))
  | .ld sz x => match ρ x with
    | .pointer (some ⟨i, o, none⟩) => v (S.ldV sz i o)
    | _ => none
  | .cvBS x => match ρ x with
    | .slice none _ _ => some (.val (.string .empty) S)
    | .slice (some ⟨i, o, none⟩) n _ => match S.row i o n with
      | some l => match bytesV l with | some bs => some (.val (.string ⟨bs.toArray⟩) S) | none => none
      | none => none
    | _ => none
  | .st size x y => match ρ x with
    | .pointer (some ⟨i, o, none⟩) => match S.raw i with
      | some r => if !r.ro && (cellsOf (ρ y)).length = size && (cellsOf (ρ y)).all cellOk && (rowOk r.c o size).isSome then
          some (.val undef (S.put i r (r.c.take o ++ cellsOf (ρ y) ++ r.c.drop (o + size)))) else none
      | none => none
    | _ => none
  | .cpy size d s => match cpyV S size (ρ d) (ρ s) with
    | some (n, S') => some (.val (.int .i64 n) S')
    | none => none
  | .box elem es x => if isBad (ρ x) then none else some (.val (.pointer (some ⟨S.next, 0, none⟩)) (S.new (cellsOf (ρ x)) elem es))
  | .new elem es cells => some (.val (.pointer (some ⟨S.next, 0, none⟩)) (S.new cells elem es))
  | .lit elem size zero n parts =>
    match fillL ((List.replicate n zero).flatten) (parts.map fun (o, s, x) => (o, s, ρ x)) with
    | some l => some (.val (.slice (some ⟨S.next, 0, none⟩) n n) (S.new l elem size))
    | none => none
  | .mks elem size bytes zero l c => match ρ l, ρ c with
    | .int _ l, .int _ c => if 0 ≤ l ∧ l ≤ c ∧ c ≤ 140737488355328 ∧ c * bytes ≤ 281474976710656 then
        some (.val (.slice (some ⟨S.next, 0, none⟩) l.toNat c.toNat) (S.new ((List.replicate c.toNat zero).flatten) elem size)) else none
    | _, _ => none
  | .cvSB elem x => match ρ x with
    | .string s => if s.size < 4611686018427387904 then some (.val (.slice (some ⟨S.next, 0, none⟩) s.size s.size) (S.new (strCells s) elem 1)) else none
    | _ => none
  | .app elem size bytes s x => match srcCells S size (ρ x) with
    | none => none
    | some (n, nw) => if !nw.all cellOk then none else match appV S elem size bytes (ρ s) n nw with
      | some (v, S') => some (.val v S')
      | none => none
  | .call f args => some (.call f (args.map ρ))
  | .callV f args => match ρ f with
    | .func (.func g) first captured => some (.call g (first.toList ++ args.map ρ ++ captured.toList))
    | _ => none
  | .bx f args => some (.call f (args.map ρ))

theorem run_runR (e : EOp) (F : AF) (S : AW) : e.run F S = e.runR F.ev S := by cases e <;> rfl

def EOp.mapO (f : Operand → Operand) : EOp → EOp
  | .mov x => .mov (f x)
  | .pick c a b => .pick (f c) (f a) (f b)
  | .bin op x y => .bin op (f x) (f y)
  | .eqB n x y => .eqB n (f x) (f y)
  | .eqN k n x y => .eqN k n (f x) (f y)
  | .eqA n x y => .eqA n (f x) (f y)
  | .un op x => .un op (f x)
  | .cvI k x => .cvI k (f x)
  | .cvS x => .cvS (f x)
  | .fld sz o x => .fld sz o (f x)
  | .ext i x => .ext i (f x)
  | .build z ps => .build z (ps.map fun p => (p.1, p.2.1, f p.2.2))
  | .fad o x => .fad o (f x)
  | .iad s x i => .iad s (f x) (f i)
  | .iadA n s x i => .iadA n s (f x) (f i)
  | .idxS x i => .idxS (f x) (f i)
  | .idxA n s a x i => .idxA n s a (f x) (f i)
  | .slS x l h => .slS (f x) (l.map f) (h.map f)
  | .slV s x l h m4 => .slV s (f x) (l.map f) (h.map f) (m4.map f)
  | .nilc x => .nilc (f x)
  | .mkf g a b => .mkf g (a.map f) (b.map f)
  | .len s x => .len s (f x)
  | .con v => .con v
  | .mx xs => .mx (xs.map f)
  | .mn xs => .mn (xs.map f)
  | .ld sz x => .ld sz (f x)
  | .cvBS x => .cvBS (f x)
  | .st s x y => .st s (f x) (f y)
  | .cpy s x y => .cpy s (f x) (f y)
  | .box e s x => .box e s (f x)
  | .new e s c => .new e s c
  | .lit e s z n ps => .lit e s z n (ps.map fun p => (p.1, p.2.1, f p.2.2))
  | .mks e s b z x y => .mks e s b z (f x) (f y)
  | .cvSB e x => .cvSB e (f x)
  | .app e s b x y => .app e s b (f x) (f y)
  | .call g xs => .call g (xs.map f)
  | .callV g xs => .callV (f g) (xs.map f)
  | .bx g xs => .bx g (xs.map f)
theorem mapO_kind (f : Operand → Operand) (e : EOp) : (e.mapO f).kind = e.kind := by cases e <;> rfl
theorem runR_mapO (f : Operand → Operand) (e : EOp) (ρ : Operand → Value) (S : AW) : (e.mapO f).runR ρ S = e.runR (fun x => ρ (f x)) S := by
  cases e <;> simp only [EOp.mapO, EOp.runR, List.map_map, Option.map_map, Function.comp_def]
theorem runR_congr {e : EOp} {ρ ρ' : Operand → Value} {S : AW} (h : ∀ x ∈ e.operands, ρ x = ρ' x) : e.runR ρ S = e.runR ρ' S := by
  have hl : ∀ xs : List Operand, (∀ x ∈ xs, ρ x = ρ' x) → xs.map ρ = xs.map ρ' := fun xs h => List.map_congr_left h
  have ho : ∀ x : Option Operand, (∀ y ∈ x.toList, ρ y = ρ' y) → x.map ρ = x.map ρ' := by
    intro x h
    cases x with
    | none => rfl
    | some y => simp only [Option.map_some]; rw [h y (by simp)]
  have hp : ∀ ps : List (Nat × Nat × Operand), (∀ x ∈ ps.map (fun p => p.2.2), ρ x = ρ' x) → ps.map (fun (p : Nat × Nat × Operand) => (p.1, p.2.1, ρ p.2.2)) = ps.map fun (p : Nat × Nat × Operand) => (p.1, p.2.1, ρ' p.2.2) :=
    fun ps h => List.map_congr_left fun p hp => by rw [h p.2.2 (List.mem_map.mpr ⟨p, hp, rfl⟩)]
  cases e with
  | build z ps => simp only [EOp.operands] at h; simp only [EOp.runR, hp ps h]
  | lit a b c d ps => simp only [EOp.operands] at h; simp only [EOp.runR, hp ps h]
  | mx xs => simp only [EOp.operands] at h; simp only [EOp.runR, hl xs h]
  | mn xs => simp only [EOp.operands] at h; simp only [EOp.runR, hl xs h]
  | call f xs => simp only [EOp.operands] at h; simp only [EOp.runR, hl xs h]
  | bx f xs => simp only [EOp.operands] at h; simp only [EOp.runR, hl xs h]
  | callV f xs =>
    simp only [EOp.operands] at h
    simp only [EOp.runR, h f (by simp), hl xs fun x hx => h x (by simp [hx])]
  | mkf f fs cs =>
    simp only [EOp.operands] at h
    simp only [EOp.runR, hl fs fun x hx => h x (by simp [hx]), hl cs fun x hx => h x (by simp [hx])]
  | slS x lo hi =>
    simp only [EOp.operands] at h
    simp only [EOp.runR, h x (by simp), ho lo fun y hy => h y (by simp only [List.mem_append]; exact .inl (.inr hy)), ho hi fun y hy => h y (by simp only [List.mem_append]; exact .inr hy)]
  | slV n x lo hi m4 =>
    simp only [EOp.operands] at h
    simp only [EOp.runR, h x (by simp), ho lo fun y hy => h y (by simp only [List.mem_append]; exact .inl (.inl (.inr hy))),
      ho hi fun y hy => h y (by simp only [List.mem_append]; exact .inl (.inr hy)), ho m4 fun y hy => h y (by simp only [List.mem_append]; exact .inr hy)]
  | con v => rfl
  | new a b c => rfl
  | _ =>
    simp only [EOp.operands, List.mem_cons, List.not_mem_nil, or_false, forall_eq_or_imp, forall_eq] at h
    simp only [EOp.runR, h]
end Go.Proofs.Ytgejdfhfgphcbaa.Ev
