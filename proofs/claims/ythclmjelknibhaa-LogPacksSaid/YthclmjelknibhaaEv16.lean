/- Each operation of the program does what ours does: parts, places, cuts, memory, calls. -/
import Derived.Test.YthclmjelknibhaaEv15
namespace Go.Proofs.Ythclmjelknibhaa.Ev
open Go Go.RowKit
set_option linter.unusedVariables false
set_option linter.unusedSimpArgs false
set_option linter.unusedSectionVars false

section ops
variable {P : Program} {W0 : Fz} {ρ : Ren} {S : AW} {w : World} {F : AF} {a : Act} (h : RelW W0 ρ S w) (hF : FRel ρ F a) {o : Oper} {r : Res} {q : Bool}
include h hF

theorem ok_fld {t : TypeId} {x : Operand} {f : Nat} {fd : Field} {sz : Option Nat} (ho : o.op = .field t x f) (hf : fieldsT P t f = some fd) (hs : szOf P fd.type = some sz)
    (hr : (EOp.fld sz fd.offset x).run F S = some r) : StepOk P W0 ρ o a w S q r := by
  obtain ⟨fs, h1, h2⟩ := fieldsT_some hf
  simp only [EOp.run] at hr
  split at hr
  · rename_i cs e1
    have g1 := hF.eval x; rw [e1] at g1
    obtain ⟨cs', g1, g2⟩ := g1.agg_inv
    have key : ∀ v, partV sz cs fd.offset = some v → StepOk P W0 ρ o a w S q (.val v S) := by
      intro v hv
      obtain ⟨v', k1, k2⟩ := part_ok hs g2 hv
      refine .quiet h k2 ?_
      simp only [execOp, ho, g1, Instr.field, Sem.run_bind, run_underlying h1, Result.andThen_ok, h2, asAgg, Sem.run_pure, k1]
    split at hr
    · simp only [Option.some.injEq] at hr; subst hr; exact key _ rfl
    · split at hr
      · rename_i v hv; simp only [Option.some.injEq] at hr; subst hr; exact key v hv
      · cases hr
  · cases hr

theorem ok_ext {x : Operand} {i : Nat} (ho : o.op = .extract x i) (hr : (EOp.ext i x).run F S = some r) : StepOk P W0 ρ o a w S q r := by
  simp only [EOp.run] at hr
  split at hr
  · rename_i cs e1
    refine ok_v h hF hr fun v hv => ?_
    have g1 := hF.eval x; rw [e1] at g1
    obtain ⟨cs', g1, g2⟩ := g1.tuple_inv
    obtain ⟨v', k1, k2⟩ := g2.get hv
    exact ⟨v', k2, by simp only [execOp, ho, g1, Instr.extract, Sem.run_bind, k1, Sem.run_pure, Result.andThen_ok]⟩
  · cases hr

theorem ok_build {t : TypeId} {parts : Array (Nat × Operand)} {e : EOp} (ho : o.op = .build t parts) (hc : buildC P t parts = some e) (hr : e.run F S = some r) : StepOk P W0 ρ o a w S q r := by
  have hps : (parts.map fun (p : Nat × Operand) => (p.1, a.eval p.2)).toList = parts.toList.map fun (p : Nat × Operand) => (p.1, a.eval p.2) := Array.toList_map
  unfold buildC at hc
  split at hc
  · rename_i n b z fs hrow hu
    obtain ⟨inf, v, hi, hv, hs, hsz, rfl, rfl, rfl⟩ := rowT_some hrow
    obtain ⟨qs, hqs, hc⟩ := Option.bind_eq_some_iff.mp hc
    split at hc
    · rename_i hall
      simp only [Option.some.injEq] at hc; subst hc
      simp only [EOp.run] at hr
      split at hr
      · rename_i l hl
        simp only [Option.some.injEq] at hr; subst hr
        obtain ⟨cells', k1, k2⟩ := fill_ok hF (placeOf P fs) parts.toList qs _ v.cells l hqs (by simpa using scalars_rel (ρ := ρ) hs) hl
        refine .quiet h (.agg' k2) ?_
        have hplaces : ∃ pl : Array (Nat × Nat), (fs.mapM fun f => do pure (f.offset, ← sizeOf f.type) : Sem (Array (Nat × Nat))).run P w = .ok pl w ∧
            ∀ i, pl[i]? = placeOf P fs i := by
          have : ∀ l : List Field, (l.all fun f => (sizeT P f.type).isSome) = true → ∃ pl : List (Nat × Nat), (l.mapM fun f => do pure (f.offset, ← sizeOf f.type) : Sem (List (Nat × Nat))).run P w = .ok pl w ∧
              ∀ i : Nat, pl[i]? = (l[i]?).bind fun f => (sizeT P f.type).map fun s => (f.offset, s) := by
            intro l
            induction l with
            | nil => intro _; exact ⟨[], rfl, fun i => by simp⟩
            | cons f l ih =>
              intro hl
              simp only [List.all_cons, Bool.and_eq_true] at hl
              obtain ⟨pl, p1, p2⟩ := ih hl.2
              obtain ⟨s, hs'⟩ := Option.isSome_iff_exists.mp hl.1
              obtain ⟨i1, q1, rfl⟩ := sizeT_some hs'
              refine ⟨(f.offset, i1.size) :: pl, ?_, fun i => ?_⟩
              · simp only [List.mapM_cons, Sem.run_bind, run_size w q1, Result.andThen_ok, Sem.run_pure, p1]
              · cases i with
                | zero => simp [hs']
                | succ i => simpa using p2 i
          obtain ⟨pl, p1, p2⟩ := this fs.toList (by simpa using hall)
          refine ⟨pl.toArray, ?_, fun i => by simpa [placeOf] using p2 i⟩
          rw [Array.mapM_eq_mapM_toList, Sem.run_map, p1]
          rfl
        obtain ⟨pl, p1, p2⟩ := hplaces
        have hfun : (fun i => pl[i]?) = placeOf P fs := funext p2
        simp only [execOp, ho, Instr.build, Sem.run_bind, run_zero hi hv, Result.andThen_ok, run_underlying hu, p1]
        rw [hfun, hps, k1]
        rfl
      · cases hr
    · cases hc
  · rename_i n b z len el hrow hu
    obtain ⟨inf, v, hi, hv, hs, hsz, rfl, rfl, rfl⟩ := rowT_some hrow
    split at hc
    · rename_i s hsT
      obtain ⟨i2, hi2, rfl⟩ := sizeT_some hsT
      obtain ⟨qs, hqs, hc⟩ := Option.map_eq_some_iff.mp hc
      subst hc
      simp only [EOp.run] at hr
      split at hr
      · rename_i l hl
        simp only [Option.some.injEq] at hr; subst hr
        obtain ⟨cells', k1, k2⟩ := fill_ok hF (fun i => some (i * i2.size, i2.size)) parts.toList qs _ v.cells l hqs (by simpa using scalars_rel (ρ := ρ) hs) hl
        refine .quiet h (.agg' k2) ?_
        simp only [execOp, ho, Instr.build, Sem.run_bind, run_zero hi hv, Result.andThen_ok, run_underlying hu, run_size w hi2]
        rw [hps, k1]
        rfl
      · cases hr
    · cases hc
  · cases hc

theorem ok_fad {t : TypeId} {x : Operand} {f : Nat} {fd : Field} {s : Nat} (ho : o.op = .fieldAddr t x f) (hf : fieldsT P t f = some fd) (hs : sizeT P fd.type = some s) (hs0 : s ≠ 0)
    (hr : (EOp.fad fd.offset x).run F S = some r) : StepOk P W0 ρ o a w S q r := by
  obtain ⟨fs, h1, h2⟩ := fieldsT_some hf
  obtain ⟨inf, hi, rfl⟩ := sizeT_some hs
  simp only [EOp.run] at hr
  split at hr
  · rename_i i o' e1
    simp only [Option.some.injEq] at hr; subst hr
    have g1 := hF.eval x; rw [e1] at g1
    obtain ⟨p, o2, hp, ho2, g1⟩ := g1.ptr_inv
    refine .quiet h (v' := .pointer (some ⟨p.blk, o2 + fd.offset, none⟩)) (.ptr hp (by omega)) ?_
    simp only [execOp, ho, g1, Instr.fieldAt, Sem.run_bind, run_underlying h1, Result.andThen_ok, h2, Instr.sureAddr, Sem.run_pure, fieldPlace, run_size w hi, Sem.run_ite, if_neg hs0, fit_add]
  · cases hr

theorem ok_iad {t el : TypeId} {x ix : Operand} {s : Nat} (ho : o.op = .indexAddr t x ix) (ht : P.underlying t = some (.slice el)) (hs : sizeT P el = some s) (hr : (EOp.iad s x ix).run F S = some r) : StepOk P W0 ρ o a w S q r := by
  obtain ⟨inf, hi, rfl⟩ := sizeT_some hs
  simp only [EOp.run] at hr
  split at hr
  · rename_i i o' n c k kk e1 e2
    split at hr
    · rename_i hb
      simp only [Option.some.injEq] at hr; subst hr
      have g1 := hF.eval x; rw [e1] at g1
      have g2 := hF.eval ix; rw [e2] at g2; have g2 := g2.int_inv
      obtain ⟨p, a', c', hp, hn, hcc, ha, g1⟩ := g1.slice_inv
      obtain ⟨o2, rfl, ho2, _⟩ := ha (by omega)
      refine .quiet h (v' := .pointer (some ⟨p.blk, o2 + kk.toNat * inf.size, none⟩)) (.ptr hp (by omega)) ?_
      have hb' : 0 ≤ kk ∧ kk < (n : Int) := hb
      simp only [execOp, ho, g1, g2, Instr.indexAt, Sem.run_bind, asIntOf, Sem.run_pure, run_underlying ht, Result.andThen_ok, Sem.run_ite, if_pos hb', run_size w hi, fit_add]
    · cases hr
  · cases hr

theorem ok_iadA {t el : TypeId} {n : Nat} {x ix : Operand} {s : Nat} (ho : o.op = .indexAddr t x ix) (ht : P.underlying t = some (.array n el)) (hs : sizeT P el = some s) (hr : (EOp.iadA n s x ix).run F S = some r) : StepOk P W0 ρ o a w S q r := by
  obtain ⟨inf, hi, rfl⟩ := sizeT_some hs
  simp only [EOp.run] at hr
  split at hr
  · rename_i i o' k kk e1 e2
    split at hr
    · rename_i hb
      simp only [Option.some.injEq] at hr; subst hr
      have g1 := hF.eval x; rw [e1] at g1
      have g2 := hF.eval ix; rw [e2] at g2; have g2 := g2.int_inv
      obtain ⟨p, o2, hp, ho2, g1⟩ := g1.ptr_inv
      refine .quiet h (v' := .pointer (some ⟨p.blk, o2 + kk.toNat * inf.size, none⟩)) (.ptr hp (by omega)) ?_
      have hb' : 0 ≤ kk ∧ kk < (n : Int) := hb
      simp only [execOp, ho, g1, g2, Instr.indexAt, Sem.run_bind, asIntOf, Sem.run_pure, run_underlying ht, Result.andThen_ok, Instr.sureAddr, Sem.run_ite, if_pos hb', run_size w hi, fit_add]
    · cases hr
  · cases hr

theorem ok_idxS {t : TypeId} {x ix : Operand} (ho : o.op = .index t x ix) (ht : P.underlying t = some .string) (hr : (EOp.idxS x ix).run F S = some r) : StepOk P W0 ρ o a w S q r := by
  simp only [EOp.run] at hr
  split at hr
  · rename_i s k kk e1 e2
    split at hr
    · rename_i hb
      split at hr
      · rename_i b hbt
        simp only [Option.some.injEq] at hr; subst hr
        have g1 := hF.eval x; rw [e1] at g1; have g1 := g1.string_inv
        have g2 := hF.eval ix; rw [e2] at g2; have g2 := g2.int_inv
        refine .quiet h (.int _ _) ?_
        simp only [execOp, ho, g1, g2, Instr.index, Sem.run_bind, asIntOf, Sem.run_pure, run_underlying ht, Result.andThen_ok, if_pos hb, str_get, hbt]
      · cases hr
    · cases hr
  · cases hr

theorem ok_idxA {t el : TypeId} {n s : Nat} {sz : Option Nat} {x ix : Operand} (ho : o.op = .index t x ix) (ht : P.underlying t = some (.array n el)) (hsz : szOf P el = some sz) (hs : sizeT P el = some s)
    (hr : (EOp.idxA n s sz.isSome x ix).run F S = some r) : StepOk P W0 ρ o a w S q r := by
  obtain ⟨inf, hi, rfl⟩ := sizeT_some hs
  obtain ⟨d, i2, hd, hi2, hsz'⟩ := szOf_some hsz
  obtain rfl : i2 = inf := by rw [hi] at hi2; exact (Option.some.inj hi2).symm
  simp only [EOp.run] at hr
  split at hr
  · rename_i cs k kk e1 e2
    split at hr
    · rename_i hb
      have g1 := hF.eval x; rw [e1] at g1
      obtain ⟨cs', g1, g1r⟩ := g1.agg_inv
      have g2 := hF.eval ix; rw [e2] at g2; have g2 := g2.int_inv
      have hb' : 0 ≤ kk ∧ kk < (n : Int) := hb
      have key : ∀ v, partV sz cs (kk.toNat * i2.size) = some v → StepOk P W0 ρ o a w S q (.val v S) := by
        intro v hv
        obtain ⟨v', k1, k2⟩ := part_ok hsz g1r hv
        refine .quiet h k2 ?_
        simp only [execOp, ho, g1, g2, Instr.index, Sem.run_bind, asIntOf, Sem.run_pure, run_underlying ht, Result.andThen_ok, Sem.run_ite, if_pos hb', run_size w hi, k1]
      split at hr
      · rename_i hag
        simp only [Option.some.injEq] at hr; subst hr
        refine key _ ?_
        rw [hsz'] at hag ⊢
        split at hag
        · rename_i hag2; simp only [hag2, if_true, partV]
        · simp at hag
      · rename_i hag
        split at hr
        · rename_i v hv
          simp only [Option.some.injEq] at hr; subst hr
          refine key v ?_
          rw [hsz'] at hag ⊢
          split at hag
          · simp at hag
          · rename_i hag2; simp only [hag2, partV]; exact hv
        · cases hr
    · cases hr
  · cases hr

theorem ok_slice2 {t el : TypeId} {x : Operand} {lo hi mx : Option Operand} {inf : TypeInfo} (ho : o.op = .slice t x lo hi mx) (ht : P.underlying t = some (.slice el)) (hi' : P.info? el = some inf) {i o' n c : Nat} {l hh m : Option Int}
    (e1 : F.ev x = .slice (some ⟨i, o', none⟩) n c) (e2 : oint (lo.map F.ev) = some l) (e3 : oint (hi.map F.ev) = some hh) (e4 : oint (mx.map F.ev) = some m) {rw' : Raw} (hraw : S.raw i = some rw') (hes : rw'.es = inf.size)
    {l1 h1 m1 : Nat} (hcut : cutB n c l hh m = some (l1, h1, m1)) : StepOk P W0 ρ o a w S q (.val (.slice (some ⟨i, o' + l1 * inf.size, none⟩) (h1 - l1) (m1 - l1)) S) := by
  have g1 := hF.eval x
  rw [e1] at g1
  obtain ⟨p, a', c', hp, hn, hcc, ha, g1⟩ := g1.slice_inv
  have hpes : p.es = inf.size := by rw [(h.cells i p rw' hp hraw).es, hes]
  obtain ⟨k1, k2, k3, k4, k5⟩ := bounds_ok P true hcc (oint_ev hF e2) (oint_ev hF e3) (oint_ev hF e4) hcut w
  let m' : Nat := if m.isSome = true then m1 else c'
  have hm' : m1 ≤ m' := by
    show _ ≤ if _ then _ else _
    split
    · exact Nat.le_refl _
    · rename_i hm; have := k5 (by simpa using hm); omega
  have hmc : m' ≤ c' := by
    show (if _ then _ else _) ≤ _
    split <;> omega
  refine .quiet h (v' := .slice (some (if m' = l1 then a' else a'.add (l1 * inf.size))) (h1 - l1) (m' - l1)) (.slice hp (by omega) (by omega) (fun hpos => ?_)) ?_
  · rw [if_neg (by omega)]
    obtain ⟨o2, rfl, ho2, hin⟩ := ha (by omega)
    refine ⟨o2 + l1 * inf.size, fit_add, by omega, ?_⟩
    rw [hpes] at hin ⊢
    have : l1 * inf.size + (m' - l1) * inf.size ≤ c' * inf.size := by rw [← Nat.add_mul]; exact Nat.mul_le_mul_right _ (by omega)
    omega
  · simp only [execOp, ho, g1, Instr.sliceAt, Instr.slice, Sem.run_bind, run_underlying ht, Result.andThen_ok, k1, run_size w hi', Sem.run_pure]
    congr 3
    show (if m' = l1 then some a' else (some a').map _) = _
    split <;> rfl

theorem ok_slice {t : TypeId} {x : Operand} {lo hi mx : Option Operand} {e : EOp} (ho : o.op = .slice t x lo hi mx) (hc : sliceC P t x lo hi mx = some e) (hr : e.run F S = some r) : StepOk P W0 ρ o a w S q r := by
  unfold sliceC at hc
  split at hc
  · rename_i ht
    split at hc
    · rename_i hmx
      have hmx : mx = none := by simpa using hmx
      subst hmx
      simp only [Option.some.injEq] at hc; subst hc
      simp only [EOp.run] at hr
      split at hr
      · rename_i s l hh e1 e2 e3
        split at hr
        · rename_i l1 h1 m1 hcut
          simp only [Option.some.injEq] at hr; subst hr
          have g1 := hF.eval x; rw [e1] at g1; have g1 := g1.string_inv
          obtain ⟨k1, k2⟩ := bounds_ok P false (Nat.le_refl s.size) (oint_ev hF e2) (oint_ev hF e3) (.inl ⟨rfl, rfl⟩ : (none = none ∧ (none : Option Value) = none) ∨ _) hcut w
          refine .quiet h (.string _) ?_
          simp only [execOp, ho, g1, Instr.sliceAt, Instr.slice, Sem.run_bind, run_underlying ht, Result.andThen_ok, Option.map_none, Option.isSome_none, Bool.false_eq_true, if_false, k1, Sem.run_pure]
        · cases hr
      · cases hr
    · cases hc
  · rename_i el ht
    obtain ⟨s, hs, hc⟩ := Option.map_eq_some_iff.mp hc
    obtain ⟨inf, hi', rfl⟩ := sizeT_some hs
    subst hc
    simp only [EOp.run] at hr
    split at hr
    · rename_i l hh m e1 e2 e3 e4
      split at hr
      · rename_i q hcut
        obtain ⟨l1, h1, m1⟩ := q
        simp only [Option.some.injEq] at hr; subst hr
        have g1 := hF.eval x; rw [e1] at g1
        obtain ⟨g1, _, _⟩ := g1.nils_inv
        obtain ⟨k1, k2, k3, k4, k5⟩ := bounds_ok P true (Nat.le_refl 0) (oint_ev hF e2) (oint_ev hF e3) (oint_ev hF e4) hcut w
        obtain rfl : m1 = 0 := by omega
        obtain rfl : h1 = 0 := by omega
        obtain rfl : l1 = 0 := by omega
        refine .quiet h .nils ?_
        have hm : (if m.isSome = true then 0 else 0 : Nat) = 0 := by split <;> rfl
        simp only [execOp, ho, g1, Instr.sliceAt, Instr.slice, Sem.run_bind, run_underlying ht, Result.andThen_ok, k1, run_size w hi', Sem.run_pure, hm]
        first | rfl | simp
      · cases hr
    · rename_i i o' n c l hh m e1 e2 e3 e4
      split at hr
      · rename_i rw' hraw
        split at hr
        · rename_i hes
          split at hr
          · rename_i l1 h1 m1 hcut
            simp only [Option.some.injEq] at hr; subst hr
            exact ok_slice2 h hF ho ht hi' e1 e2 e3 e4 hraw hes hcut
          · cases hr
        · cases hr
      · cases hr
    · cases hr
  · cases hc
end ops
end Go.Proofs.Ythclmjelknibhaa.Ev
