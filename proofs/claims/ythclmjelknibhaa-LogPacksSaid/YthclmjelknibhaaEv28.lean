/- Our operations at values, however told; their operands put by others. -/
import Derived.Test.YthclmjelknibhaaEv27
namespace Go.Proofs.Ythclmjelknibhaa.Ev
open Go Go.RowKit
set_option linter.unusedVariables false
set_option linter.unusedSimpArgs false
set_option linter.unusedSectionVars false

def rV (S : AW) (x : Option Value) : Option Res := match x with | some v => some (.val v S) | none => none
def rMov (ρ : Operand → Value) (S : AW) (x : Operand) : Option Res := some (.val (ρ x) S)
def rCon (ρ : Operand → Value) (S : AW) (x : Value) : Option Res := some (.val x S)
def rPick (ρ : Operand → Value) (S : AW) (c : Operand) (a : Operand) (b : Operand) : Option Res := match ρ c with | .bool t => some (.val (if t then ρ a else ρ b) S) | _ => none
def rBin (ρ : Operand → Value) (S : AW) (op : BinOp) (x : Operand) (y : Operand) : Option Res := rV S <| (binV op (ρ x) (ρ y))
def rEqB (ρ : Operand → Value) (S : AW) (neg : Bool) (x : Operand) (y : Operand) : Option Res := match ρ x, ρ y with | .bool a, .bool b => some (.val (.bool (if neg then !decide (a = b) else decide (a = b))) S) | _, _ => none
def rEqN (ρ : Operand → Value) (S : AW) (kind : Nat) (neg : Bool) (x : Operand) (y : Operand) : Option Res := match nilV kind (ρ x) (ρ y) with | some b => some (.val (.bool (if neg then !b else b)) S) | none => none
def rEqA (ρ : Operand → Value) (S : AW) (neg : Bool) (n : List KL) (x : Operand) (y : Operand) : Option Res := match eqaV n (ρ x) (ρ y) with | some b => some (.val (.bool (if neg then !b else b)) S) | none => none
def rUn (ρ : Operand → Value) (S : AW) (op : UnOp) (x : Operand) : Option Res := rV S <| (unV op (ρ x))
def rCvI (ρ : Operand → Value) (S : AW) (k : IntKind) (x : Operand) : Option Res := match ρ x with | .int _ n => some (.val (.int k (k.wrap n)) S) | _ => none
def rCvS (ρ : Operand → Value) (S : AW) (x : Operand) : Option Res := match ρ x with | .int _ n => some (.val (.string (Utf8.encode n)) S) | .string s => some (.val (.string s) S) | _ => none
def rFld (ρ : Operand → Value) (S : AW) (sz : Option Nat) (off : Nat) (x : Operand) : Option Res := match ρ x with
    | .agg cs => match sz with
      | some n => some (.val (.agg (cs.extract off (off + n))) S)
      | none => rV S <| cs[off]?
    | _ => none
def rExt (ρ : Operand → Value) (S : AW) (i : Nat) (x : Operand) : Option Res := match ρ x with | .tuple cs => rV S <| cs[i]? | _ => none
def rBuild (ρ : Operand → Value) (S : AW) (zero : List Value) (parts : List (Nat × Nat × Operand)) : Option Res := match fillL zero (parts.map fun (o, s, x) => (o, s, ρ x)) with | some l => some (.val (.agg l.toArray) S) | none => none
def rFad (ρ : Operand → Value) (S : AW) (off : Nat) (x : Operand) : Option Res := match ρ x with | .pointer (some ⟨i, o, none⟩) => some (.val (.pointer (some ⟨i, o + off, none⟩)) S) | _ => none
def rIad (ρ : Operand → Value) (S : AW) (size : Nat) (x : Operand) (ix : Operand) : Option Res := match ρ x, ρ ix with
    | .slice (some ⟨i, o, none⟩) n _, .int _ k => if 0 ≤ k ∧ k < n then some (.val (.pointer (some ⟨i, o + k.toNat * size, none⟩)) S) else none
    | _, _ => none
def rIadA (ρ : Operand → Value) (S : AW) (ln : Nat) (size : Nat) (x : Operand) (ix : Operand) : Option Res := match ρ x, ρ ix with
    | .pointer (some ⟨i, o, none⟩), .int _ k => if 0 ≤ k ∧ k < ln then some (.val (.pointer (some ⟨i, o + k.toNat * size, none⟩)) S) else none
    | _, _ => none
def rIdxS (ρ : Operand → Value) (S : AW) (x : Operand) (ix : Operand) : Option Res := match ρ x, ρ ix with
    | .string s, .int _ k => if 0 ≤ k then match s.data.toList[k.toNat]? with | some b => some (.val (.int .u8 b.toNat) S) | none => none else none
    | _, _ => none
def rIdxA (ρ : Operand → Value) (S : AW) (ln : Nat) (size : Nat) (ag : Bool) (x : Operand) (ix : Operand) : Option Res := match ρ x, ρ ix with
    | .agg cs, .int _ k => if 0 ≤ k ∧ k < ln then
        (if ag then some (.val (.agg (cs.extract (k.toNat * size) (k.toNat * size + size))) S) else rV S <| cs[k.toNat * size]?) else none
    | _, _ => none
def rSlS (ρ : Operand → Value) (S : AW) (x : Operand) (lo : Option Operand) (hi : Option Operand) : Option Res := match ρ x, oint (lo.map ρ), oint (hi.map ρ) with
    | .string s, some l, some h => match cutB s.size s.size l h none with | some (l, h, _) => some (.val (.string (s.extract l h)) S) | none => none
    | _, _, _ => none
def rSlV (ρ : Operand → Value) (S : AW) (size : Nat) (x : Operand) (lo : Option Operand) (hi : Option Operand) (mm : Option Operand) : Option Res := match ρ x, oint (lo.map ρ), oint (hi.map ρ), oint (mm.map ρ) with
    | .slice none 0 0, some l, some h, some m => match cutB 0 0 l h m with | some _ => some (.val (.slice none 0 0) S) | none => none
    | .slice (some ⟨i, o, none⟩) n c, some l, some h, some m => match S.raw i with
      | some r => if r.es = size then match cutB n c l h m with
          | some (l, h, m) => some (.val (.slice (some ⟨i, o + l * size, none⟩) (h - l) (m - l)) S)
          | none => none
        else none
      | none => none
    | _, _, _, _ => none
def rNilc (ρ : Operand → Value) (S : AW) (x : Operand) : Option Res := match ρ x with | .pointer (some a) => some (.val (.pointer (some a)) S) | .func f a b => some (.val (.func f a b) S) | _ => none
def rMkf (ρ : Operand → Value) (S : AW) (f : FuncId) (fs : List Operand) (cs : List Operand) : Option Res := some (.val (.func (.func f) (fs.map ρ).toArray (cs.map ρ).toArray) S)
def rMark (ρ : Operand → Value) (S : AW) (x : Operand) : Option Res := match ρ x with
  | .slice (some ⟨i, o, none⟩) n c => match S.raw i with
    | some r => if r.ro = false ∧ 0 < c then some (.val (.slice (some ⟨i, o, none⟩) n c) S) else none
    | none => none
  | _ => none
def rCapn (ρ : Operand → Value) (S : AW) (x : Operand) : Option Res := match ρ x with | .slice none 0 0 => some (.val (.int .i64 0) S) | _ => none
def rLen (ρ : Operand → Value) (S : AW) (str : Bool) (x : Operand) : Option Res := match str, ρ x with
    | true, .string s => some (.val (.int .i64 s.size) S)
    | false, .slice _ n _ => some (.val (.int .i64 n) S)
    | _, _ => none
def rMx (ρ : Operand → Value) (S : AW) (xs : List Operand) : Option Res := rV S <| (mmV true (xs.map ρ))
def rMn (ρ : Operand → Value) (S : AW) (xs : List Operand) : Option Res := rV S <| (mmV false (xs.map ρ))
def rLd (ρ : Operand → Value) (S : AW) (sz : Option Nat) (x : Operand) : Option Res := match ρ x with
    | .pointer (some ⟨i, o, none⟩) => rV S <| (S.ldV sz i o)
    | _ => none
def rCvBS (ρ : Operand → Value) (S : AW) (x : Operand) : Option Res := match ρ x with
    | .slice none _ _ => some (.val (.string .empty) S)
    | .slice (some ⟨i, o, none⟩) n _ => match S.row i o n with
      | some l => match bytesV l with | some bs => some (.val (.string ⟨bs.toArray⟩) S) | none => none
      | none => none
    | _ => none
def rSt (ρ : Operand → Value) (S : AW) (size : Nat) (x : Operand) (y : Operand) : Option Res := match ρ x with
    | .pointer (some ⟨i, o, none⟩) => match S.raw i with
      | some r => if !r.ro && (cellsOf (ρ y)).length = size && (cellsOf (ρ y)).all cellOk && (rowOk r.c o size).isSome then
          some (.val undef (S.put i r (r.c.take o ++ cellsOf (ρ y) ++ r.c.drop (o + size)))) else none
      | none => none
    | _ => none
def rCpy (ρ : Operand → Value) (S : AW) (size : Nat) (d : Operand) (s : Operand) : Option Res := match cpyV S size (ρ d) (ρ s) with
    | some (n, S') => some (.val (.int .i64 n) S')
    | none => none
def rMkm (ρ : Operand → Value) (S : AW) (r : Option Operand) : Option Res := match oint (r.map ρ) with
    | some _ => some (.val (.map (some S.next)) S.newMap)
    | none => none
def rMlk (ρ : Operand → Value) (S : AW) (ks : KS) (z : Value) (ok : Bool) (x : Operand) (k : Operand) : Option Res := rV S <| (mlkV S ks z ok (ρ x) (ρ k))
def rMup (ρ : Operand → Value) (S : AW) (ks : KS) (x : Operand) (k : Operand) (y : Operand) : Option Res := match mupV S ks (ρ x) (ρ k) (ρ y) with
    | some S' => some (.val undef S')
    | none => none
def rMdel (ρ : Operand → Value) (S : AW) (ks : KS) (x : Operand) (k : Operand) : Option Res := match mdelV S ks (ρ x) (ρ k) with
    | some S' => some (.val undef S')
    | none => none
def rLenM (ρ : Operand → Value) (S : AW) (x : Operand) : Option Res := rV S <| (lenMV S (ρ x))
def rBox (ρ : Operand → Value) (S : AW) (elem : Nat) (es : Nat) (x : Operand) : Option Res := if isBad (ρ x) then none else some (.val (.pointer (some ⟨S.next, 0, none⟩)) (S.new (cellsOf (ρ x)) elem es))
def rNew (ρ : Operand → Value) (S : AW) (elem : Nat) (es : Nat) (cells : List Value) : Option Res := some (.val (.pointer (some ⟨S.next, 0, none⟩)) (S.new cells elem es))
def rLit (ρ : Operand → Value) (S : AW) (elem : Nat) (size : Nat) (zero : List Value) (n : Nat) (parts : List (Nat × Nat × Operand)) : Option Res := 
    match fillL ((List.replicate n zero).flatten) (parts.map fun (o, s, x) => (o, s, ρ x)) with
    | some l => some (.val (.slice (some ⟨S.next, 0, none⟩) n n) (S.new l elem size))
    | none => none
def rMks (ρ : Operand → Value) (S : AW) (elem : Nat) (size : Nat) (bytes : Nat) (zero : List Value) (l : Operand) (c : Operand) : Option Res := match ρ l, ρ c with
    | .int _ l, .int _ c => if 0 ≤ l ∧ l ≤ c ∧ c ≤ 140737488355328 ∧ c * bytes ≤ 281474976710656 then
        some (.val (.slice (some ⟨S.next, 0, none⟩) l.toNat c.toNat) (S.new ((List.replicate c.toNat zero).flatten) elem size)) else none
    | _, _ => none
def rCvSB (ρ : Operand → Value) (S : AW) (elem : Nat) (x : Operand) : Option Res := match ρ x with
    | .string s => if s.size < 4611686018427387904 then some (.val (.slice (some ⟨S.next, 0, none⟩) s.size s.size) (S.new (strCells s) elem 1)) else none
    | _ => none
def rApp (ρ : Operand → Value) (S : AW) (elem : Nat) (size : Nat) (bytes : Nat) (s : Operand) (x : Operand) : Option Res := match srcCells S size (ρ x) with
    | none => none
    | some (n, nw) => if !nw.all cellOk then none else match appV S elem size bytes (ρ s) n nw with
      | some (v, S') => some (.val v S')
      | none => none
def rAppz (ρ : Operand → Value) (S : AW) (elem : Nat) (size : Nat) (bytes : Nat) (zero : List Value) (s : Operand) (x : Operand) : Option Res := match ρ x with
    | .int .i64 k => if 0 ≤ k ∧ k ≤ 140737488355328 ∧ k * bytes ≤ 281474976710656 then
        (if !((List.replicate k.toNat zero).flatten).all cellOk then none else match appV S elem size bytes (ρ s) k.toNat ((List.replicate k.toNat zero).flatten) with
        | some (v, S') => some (.val v S')
        | none => none) else none
    | _ => none
def rCall (ρ : Operand → Value) (S : AW) (f : FuncId) (args : List Operand) : Option Res := some (.call f (args.map ρ))
def rCallV (ρ : Operand → Value) (S : AW) (f : Operand) (args : List Operand) : Option Res := match ρ f with
    | .func (.func g) first captured => some (.call g (first.toList ++ args.map ρ ++ captured.toList))
    | _ => none
def rBx (ρ : Operand → Value) (S : AW) (f : FuncId) (args : List Operand) : Option Res := some (.call f (args.map ρ))
def rNo (ρ : Operand → Value) (S : AW) : Option Res := none
def EOp.runR (e : EOp) (ρ : Operand → Value) (S : AW) : Option Res :=
  match e with
  | .mov x => rMov ρ S x
  | .con x => rCon ρ S x
  | .pick c a b => rPick ρ S c a b
  | .bin op x y => rBin ρ S op x y
  | .eqB neg x y => rEqB ρ S neg x y
  | .eqN kind neg x y => rEqN ρ S kind neg x y
  | .eqA neg n x y => rEqA ρ S neg n x y
  | .un op x => rUn ρ S op x
  | .cvI k x => rCvI ρ S k x
  | .cvS x => rCvS ρ S x
  | .fld sz off x => rFld ρ S sz off x
  | .ext i x => rExt ρ S i x
  | .build zero parts => rBuild ρ S zero parts
  | .fad off x => rFad ρ S off x
  | .iad size x ix => rIad ρ S size x ix
  | .iadA ln size x ix => rIadA ρ S ln size x ix
  | .idxS x ix => rIdxS ρ S x ix
  | .idxA ln size ag x ix => rIdxA ρ S ln size ag x ix
  | .slS x lo hi => rSlS ρ S x lo hi
  | .slV size x lo hi mm => rSlV ρ S size x lo hi mm
  | .nilc x => rNilc ρ S x
  | .mkf f fs cs => rMkf ρ S f fs cs
  | .len str x => rLen ρ S str x
  | .mx xs => rMx ρ S xs
  | .mn xs => rMn ρ S xs
  | .ld sz x => rLd ρ S sz x
  | .cvBS x => rCvBS ρ S x
  | .st size x y => rSt ρ S size x y
  | .cpy size d s => rCpy ρ S size d s
  | .mkm r => rMkm ρ S r
  | .mlk ks z ok x k => rMlk ρ S ks z ok x k
  | .mup ks x k y => rMup ρ S ks x k y
  | .mdel ks x k => rMdel ρ S ks x k
  | .lenM x => rLenM ρ S x
  | .capn x => rCapn ρ S x
  | .mark x => rMark ρ S x
  | .box elem es x => rBox ρ S elem es x
  | .new elem es cells => rNew ρ S elem es cells
  | .lit elem size zero n parts => rLit ρ S elem size zero n parts
  | .mks elem size bytes zero l c => rMks ρ S elem size bytes zero l c
  | .cvSB elem x => rCvSB ρ S elem x
  | .app elem size bytes s x => rApp ρ S elem size bytes s x
  | .appz elem size bytes zero s x => rAppz ρ S elem size bytes zero s x
  | .call f args => rCall ρ S f args
  | .callV f args => rCallV ρ S f args
  | .bx f args => rBx ρ S f args
  | .no => rNo ρ S

theorem run_runR (e : EOp) (F : AF) (S : AW) : e.run F S = e.runR F.ev S := by cases e <;> rfl

def EOp.mapO (f : Operand → Operand) : EOp → EOp
  | .mov x => .mov (f x)
  | .pick c a b => .pick (f c) (f a) (f b)
  | .bin op x y => .bin op (f x) (f y)
  | .eqB n x y => .eqB n (f x) (f y)
  | .eqN k n x y => .eqN k n (f x) (f y)
  | .eqA n m x y => .eqA n m (f x) (f y)
  | .un op x => .un op (f x)
  | .cvI k x => .cvI k (f x)
  | .cvS x => .cvS (f x)
  | .fld sz o x => .fld sz o (f x)
  | .ext i x => .ext i (f x)
  | .build z ps => .build z (ps.map fun p => (p.1, p.2.1, f p.2.2))
  | .fad o x => .fad o (f x)
  | .iad s x i => .iad s (f x) (f i)
  | .iadA n s x i => .iadA n s (f x) (f i)
  | .idxS x i => .idxS (f x) (f i)
  | .idxA n s a x i => .idxA n s a (f x) (f i)
  | .slS x l h => .slS (f x) (l.map f) (h.map f)
  | .slV s x l h m4 => .slV s (f x) (l.map f) (h.map f) (m4.map f)
  | .nilc x => .nilc (f x)
  | .mkf g a b => .mkf g (a.map f) (b.map f)
  | .len s x => .len s (f x)
  | .con v => .con v
  | .mx xs => .mx (xs.map f)
  | .mn xs => .mn (xs.map f)
  | .ld sz x => .ld sz (f x)
  | .cvBS x => .cvBS (f x)
  | .st s x y => .st s (f x) (f y)
  | .cpy s x y => .cpy s (f x) (f y)
  | .mkm r => .mkm (r.map f)
  | .mlk ks z b x y => .mlk ks z b (f x) (f y)
  | .mup ks x y z => .mup ks (f x) (f y) (f z)
  | .mdel ks x y => .mdel ks (f x) (f y)
  | .lenM x => .lenM (f x)
  | .capn x => .capn (f x)
  | .mark x => .mark (f x)
  | .box e s x => .box e s (f x)
  | .new e s c => .new e s c
  | .lit e s z n ps => .lit e s z n (ps.map fun p => (p.1, p.2.1, f p.2.2))
  | .mks e s b z x y => .mks e s b z (f x) (f y)
  | .cvSB e x => .cvSB e (f x)
  | .app e s b x y => .app e s b (f x) (f y)
  | .appz e s b z x y => .appz e s b z (f x) (f y)
  | .call g xs => .call g (xs.map f)
  | .callV g xs => .callV (f g) (xs.map f)
  | .bx g xs => .bx g (xs.map f)
  | .no => .no
theorem mapO_kind (f : Operand → Operand) (e : EOp) : (e.mapO f).kind = e.kind := by cases e <;> rfl
theorem runR_mapO (f : Operand → Operand) (e : EOp) (ρ : Operand → Value) (S : AW) : (e.mapO f).runR ρ S = e.runR (fun x => ρ (f x)) S := by
  cases e <;> simp only [EOp.mapO, EOp.runR, rMov, rCon, rPick, rBin, rEqB, rEqN, rEqA, rUn, rCvI, rCvS, rFld, rExt, rBuild, rFad, rIad, rIadA, rIdxS, rIdxA, rSlS, rSlV, rNilc, rMkf, rLen, rCapn, rMark, rMx, rMn, rLd, rCvBS, rSt, rCpy, rMkm, rMlk, rMup, rMdel, rLenM, rBox, rNew, rLit, rMks, rCvSB, rApp, rAppz, rCall, rCallV, rBx, rNo, List.map_map, Option.map_map, Function.comp_def]
theorem runR_congr {e : EOp} {ρ ρ' : Operand → Value} {S : AW} (h : ∀ x ∈ e.operands, ρ x = ρ' x) : e.runR ρ S = e.runR ρ' S := by
  have hl : ∀ xs : List Operand, (∀ x ∈ xs, ρ x = ρ' x) → xs.map ρ = xs.map ρ' := fun xs h => List.map_congr_left h
  have ho : ∀ x : Option Operand, (∀ y ∈ x.toList, ρ y = ρ' y) → x.map ρ = x.map ρ' := by
    intro x h
    cases x with
    | none => rfl
    | some y => simp only [Option.map_some]; rw [h y (by simp)]
  have hp : ∀ ps : List (Nat × Nat × Operand), (∀ x ∈ ps.map (fun p => p.2.2), ρ x = ρ' x) → ps.map (fun (p : Nat × Nat × Operand) => (p.1, p.2.1, ρ p.2.2)) = ps.map fun (p : Nat × Nat × Operand) => (p.1, p.2.1, ρ' p.2.2) :=
    fun ps h => List.map_congr_left fun p hp => by rw [h p.2.2 (List.mem_map.mpr ⟨p, hp, rfl⟩)]
  cases e with
  | build z ps => simp only [EOp.operands] at h; simp only [EOp.runR, rMov, rCon, rPick, rBin, rEqB, rEqN, rEqA, rUn, rCvI, rCvS, rFld, rExt, rBuild, rFad, rIad, rIadA, rIdxS, rIdxA, rSlS, rSlV, rNilc, rMkf, rLen, rCapn, rMark, rMx, rMn, rLd, rCvBS, rSt, rCpy, rMkm, rMlk, rMup, rMdel, rLenM, rBox, rNew, rLit, rMks, rCvSB, rApp, rAppz, rCall, rCallV, rBx, rNo, hp ps h]
  | lit a b c d ps => simp only [EOp.operands] at h; simp only [EOp.runR, rMov, rCon, rPick, rBin, rEqB, rEqN, rEqA, rUn, rCvI, rCvS, rFld, rExt, rBuild, rFad, rIad, rIadA, rIdxS, rIdxA, rSlS, rSlV, rNilc, rMkf, rLen, rCapn, rMark, rMx, rMn, rLd, rCvBS, rSt, rCpy, rMkm, rMlk, rMup, rMdel, rLenM, rBox, rNew, rLit, rMks, rCvSB, rApp, rAppz, rCall, rCallV, rBx, rNo, hp ps h]
  | mx xs => simp only [EOp.operands] at h; simp only [EOp.runR, rMov, rCon, rPick, rBin, rEqB, rEqN, rEqA, rUn, rCvI, rCvS, rFld, rExt, rBuild, rFad, rIad, rIadA, rIdxS, rIdxA, rSlS, rSlV, rNilc, rMkf, rLen, rCapn, rMark, rMx, rMn, rLd, rCvBS, rSt, rCpy, rMkm, rMlk, rMup, rMdel, rLenM, rBox, rNew, rLit, rMks, rCvSB, rApp, rAppz, rCall, rCallV, rBx, rNo, hl xs h]
  | mn xs => simp only [EOp.operands] at h; simp only [EOp.runR, rMov, rCon, rPick, rBin, rEqB, rEqN, rEqA, rUn, rCvI, rCvS, rFld, rExt, rBuild, rFad, rIad, rIadA, rIdxS, rIdxA, rSlS, rSlV, rNilc, rMkf, rLen, rCapn, rMark, rMx, rMn, rLd, rCvBS, rSt, rCpy, rMkm, rMlk, rMup, rMdel, rLenM, rBox, rNew, rLit, rMks, rCvSB, rApp, rAppz, rCall, rCallV, rBx, rNo, hl xs h]
  | call f xs => simp only [EOp.operands] at h; simp only [EOp.runR, rMov, rCon, rPick, rBin, rEqB, rEqN, rEqA, rUn, rCvI, rCvS, rFld, rExt, rBuild, rFad, rIad, rIadA, rIdxS, rIdxA, rSlS, rSlV, rNilc, rMkf, rLen, rCapn, rMark, rMx, rMn, rLd, rCvBS, rSt, rCpy, rMkm, rMlk, rMup, rMdel, rLenM, rBox, rNew, rLit, rMks, rCvSB, rApp, rAppz, rCall, rCallV, rBx, rNo, hl xs h]
  | bx f xs => simp only [EOp.operands] at h; simp only [EOp.runR, rMov, rCon, rPick, rBin, rEqB, rEqN, rEqA, rUn, rCvI, rCvS, rFld, rExt, rBuild, rFad, rIad, rIadA, rIdxS, rIdxA, rSlS, rSlV, rNilc, rMkf, rLen, rCapn, rMark, rMx, rMn, rLd, rCvBS, rSt, rCpy, rMkm, rMlk, rMup, rMdel, rLenM, rBox, rNew, rLit, rMks, rCvSB, rApp, rAppz, rCall, rCallV, rBx, rNo, hl xs h]
  | callV f xs =>
    simp only [EOp.operands] at h
    simp only [EOp.runR, rMov, rCon, rPick, rBin, rEqB, rEqN, rEqA, rUn, rCvI, rCvS, rFld, rExt, rBuild, rFad, rIad, rIadA, rIdxS, rIdxA, rSlS, rSlV, rNilc, rMkf, rLen, rCapn, rMark, rMx, rMn, rLd, rCvBS, rSt, rCpy, rMkm, rMlk, rMup, rMdel, rLenM, rBox, rNew, rLit, rMks, rCvSB, rApp, rAppz, rCall, rCallV, rBx, rNo, h f (by simp), hl xs fun x hx => h x (by simp [hx])]
  | mkf f fs cs =>
    simp only [EOp.operands] at h
    simp only [EOp.runR, rMov, rCon, rPick, rBin, rEqB, rEqN, rEqA, rUn, rCvI, rCvS, rFld, rExt, rBuild, rFad, rIad, rIadA, rIdxS, rIdxA, rSlS, rSlV, rNilc, rMkf, rLen, rCapn, rMark, rMx, rMn, rLd, rCvBS, rSt, rCpy, rMkm, rMlk, rMup, rMdel, rLenM, rBox, rNew, rLit, rMks, rCvSB, rApp, rAppz, rCall, rCallV, rBx, rNo, hl fs fun x hx => h x (by simp [hx]), hl cs fun x hx => h x (by simp [hx])]
  | slS x lo hi =>
    simp only [EOp.operands] at h
    simp only [EOp.runR, rMov, rCon, rPick, rBin, rEqB, rEqN, rEqA, rUn, rCvI, rCvS, rFld, rExt, rBuild, rFad, rIad, rIadA, rIdxS, rIdxA, rSlS, rSlV, rNilc, rMkf, rLen, rCapn, rMark, rMx, rMn, rLd, rCvBS, rSt, rCpy, rMkm, rMlk, rMup, rMdel, rLenM, rBox, rNew, rLit, rMks, rCvSB, rApp, rAppz, rCall, rCallV, rBx, rNo, h x (by simp), ho lo fun y hy => h y (by simp only [List.mem_append]; exact .inl (.inr hy)), ho hi fun y hy => h y (by simp only [List.mem_append]; exact .inr hy)]
  | slV n x lo hi m4 =>
    simp only [EOp.operands] at h
    simp only [EOp.runR, rMov, rCon, rPick, rBin, rEqB, rEqN, rEqA, rUn, rCvI, rCvS, rFld, rExt, rBuild, rFad, rIad, rIadA, rIdxS, rIdxA, rSlS, rSlV, rNilc, rMkf, rLen, rCapn, rMark, rMx, rMn, rLd, rCvBS, rSt, rCpy, rMkm, rMlk, rMup, rMdel, rLenM, rBox, rNew, rLit, rMks, rCvSB, rApp, rAppz, rCall, rCallV, rBx, rNo, h x (by simp), ho lo fun y hy => h y (by simp only [List.mem_append]; exact .inl (.inl (.inr hy))),
      ho hi fun y hy => h y (by simp only [List.mem_append]; exact .inl (.inr hy)), ho m4 fun y hy => h y (by simp only [List.mem_append]; exact .inr hy)]
  | mkm r => simp only [EOp.operands] at h; simp only [EOp.runR, rMov, rCon, rPick, rBin, rEqB, rEqN, rEqA, rUn, rCvI, rCvS, rFld, rExt, rBuild, rFad, rIad, rIadA, rIdxS, rIdxA, rSlS, rSlV, rNilc, rMkf, rLen, rCapn, rMark, rMx, rMn, rLd, rCvBS, rSt, rCpy, rMkm, rMlk, rMup, rMdel, rLenM, rBox, rNew, rLit, rMks, rCvSB, rApp, rAppz, rCall, rCallV, rBx, rNo, ho r h]
  | con v => rfl
  | no => rfl
  | new a b c => rfl
  | _ =>
    simp only [EOp.operands, List.mem_cons, List.not_mem_nil, or_false, forall_eq_or_imp, forall_eq] at h
    simp only [EOp.runR, rMov, rCon, rPick, rBin, rEqB, rEqN, rEqA, rUn, rCvI, rCvS, rFld, rExt, rBuild, rFad, rIad, rIadA, rIdxS, rIdxA, rSlS, rSlV, rNilc, rMkf, rLen, rCapn, rMark, rMx, rMn, rLd, rCvBS, rSt, rCpy, rMkm, rMlk, rMup, rMdel, rLenM, rBox, rNew, rLit, rMks, rCvSB, rApp, rAppz, rCall, rCallV, rBx, rNo, h]
end Go.Proofs.Ythclmjelknibhaa.Ev
