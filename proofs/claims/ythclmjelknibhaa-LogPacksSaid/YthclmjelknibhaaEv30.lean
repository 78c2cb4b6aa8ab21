/- Functions whose regions are trees: what they come to, ours come to. -/
import Derived.Test.YthclmjelknibhaaEv29
namespace Go.Proofs.Ythclmjelknibhaa.Ev
open Go Go.RowKit
set_option linter.unusedVariables false
set_option linter.unusedSimpArgs false
set_option linter.unusedSectionVars false

inductive XCode where
  | skip
  | rt (r : RT)
  | seq (a b : XCode)
  | cond (c : Operand) (a b : XCode)
  | block (id : Nat) (a : XCode)
  | loop (a : XCode)
  | exit (id : Nat)
  | ret
structure XFunc where
  ntmps : Nat
  K : List Nat
  nx : Nat
  body : XCode
  results : List (Nat × Option (Option Nat))

def evX (C : Callee) (K : List Nat) (n : Nat) : XCode → AF → AW → Out
  | .skip, F, S => some (.normal, F, S)
  | .rt r, F, S => thenN (evRT C r (K.map fun t => (t, F.get t)) [] S F)
  | .seq a b, F, S => match evX C K n a F S with
    | some (.normal, F', S') => evX C K n b F' S'
    | r => r
  | .cond c a b, F, S => match F.ev c with
    | .bool true => evX C K n a F S
    | .bool false => evX C K n b F S
    | _ => none
  | .block id a, F, S => match evX C K n a F S with
    | some (.exit id', F', S') => if id' = id then some (.normal, F', S') else some (.exit id', F', S')
    | r => r
  | .loop a, F, S => iter (evX C K n a) n F S
  | .exit id, F, S => some (.exit id, F, S)
  | .ret, F, S => some (.ret, F, S)

def okK (K : List Nat) : Operand → Bool
  | .tmp t => K.contains t
  | _ => true
def toRt : Option RT → Option XCode
  | some r => some (.rt r)
  | none => none
def normC (K : List Nat) (nt nx : Nat) : ECode → Option XCode
  | .skip => some .skip
  | .ops l => toRt (sym K nt (l.map fun o => .op o none) [] nx [])
  | .dra all L m => if planOk all m L then
      match L.mapM (fun i => (all[i]?).map fun d => (i, d)) with
      | some ol => toRt (sym K nt (flatD m (stillAll all) ol) [] nx [])
      | none => none
    else none
  | .seq a b => match normC K nt nx a, normC K nt nx b with
    | some a, some b => some (.seq a b)
    | _, _ => none
  | .cond c a b => if okK K c then match normC K nt nx a, normC K nt nx b with
    | some a, some b => some (.cond c a b)
    | _, _ => none
    else none
  | .block id a => match normC K nt nx a with
    | some a => some (.block id a)
    | none => none
  | .loop a => match normC K nt nx a with
    | some a => some (.loop a)
    | none => none
  | .exit id => some (.exit id)
  | .ret => some .ret

theorem toRt_inv {o : Option RT} {x : XCode} (h : toRt o = some x) : ∃ r, o = some r ∧ x = .rt r := by
  cases o with
  | none => cases h
  | some r => simp only [toRt, Option.some.injEq] at h; exact ⟨r, rfl, h.symm⟩

theorem evOper_E (C : Callee) (o : EOper) (F : AF) (S : AW) : evOper C o F S = match evE C o F S with
    | some (v, S', _) => put1 F o.dst (some (v, S'))
    | none => none := by
  have key : evStep C o F S = match goE C o.op F S with
    | some (v, S', _) => put1 F o.dst (some (v, S'))
    | none => none := by
    simp only [evStep, goE]
    cases o.op.run F S with
    | none => rfl
    | some r =>
      cases r with
      | val v S' => rfl
      | call f args =>
        simp only
        cases C f args S with
        | none => rfl
        | some q => rfl
  simp only [evOper, evE]
  cases o.guard with
  | none => exact key
  | some tw =>
    obtain ⟨t, want⟩ := tw
    simp only
    cases gd (F.get t) want with
    | none => rfl
    | some b =>
      cases b
      · rfl
      · exact key

theorem ops_si (C : Callee) : ∀ (l : List EOper) (F : AF) (S : AW) (ps : List Pd), evSI C (l.map fun o => SI.op o none) F S ps = evOps C l F S
  | [], F, S, ps => rfl
  | o :: l, F, S, ps => by
    simp only [List.map_cons, evSI, evOps, evOper_E]
    cases evE C o F S with
    | none => rfl
    | some q =>
      obtain ⟨v, S', ran⟩ := q
      simp only [put1]
      cases F.dst o.dst v with
      | none => rfl
      | some F' => exact ops_si C l F' S' _

theorem rt_n {C : Callee} : ∀ (rt : RT) (l : List (Nat × Value)) (sv : List (Nat × AW)) (S : AW) (G : AF) (r : AF × AW), evRT C rt l sv S G = some r → r.1.n = G.n
  | .done as, l, sv, S, G, r, h => by
    simp only [evRT, Option.some.injEq] at h
    subst h
    exact (apply_get as 0).2
  | .step x e k, l, sv, S, G, r, h => by
    simp only [evRT] at h
    split at h
    · exact rt_n k _ _ _ _ r h
    · split at h
      · exact rt_n k _ _ _ _ r h
      · cases h
    · cases h
  | .save x k, l, sv, S, G, r, h => by
    simp only [evRT] at h
    exact rt_n k _ _ _ _ r h
  | .test o t f, l, sv, S, G, r, h => by
    simp only [evRT] at h
    split at h
    · exact rt_n t _ _ _ _ r h
    · exact rt_n f _ _ _ _ r h
    · cases h
  | .same e q k, l, sv, S, G, r, h => by
    simp only [evRT] at h
    split at h
    · split at h
      · exact rt_n k _ _ _ _ r h
      · cases h
    · cases h
  | .row x q k, l, sv, S, G, r, h => by
    simp only [evRT] at h
    split at h
    · split at h
      · exact rt_n k _ _ _ _ r h
      · cases h
    · cases h

theorem getL_map (K : List Nat) (g : Nat → Value) {t : Nat} (ht : t ∈ K) : getL (K.map fun t => (t, g t)) t = g t := by
  induction K with
  | nil => cases ht
  | cons u K ih =>
    simp only [List.map_cons, getL]
    by_cases h : t = u
    · rw [if_pos h, h]
    · rw [if_neg h]; exact ih (by simpa [h] using ht)

theorem rt_ok {C : Callee} {K : List Nat} {nt nx : Nat} {l : List SI} {rt : RT} (hs : sym K nt l [] nx [] = some rt) (hK : ∀ t ∈ K, t < nx) {F G : AF} (hA : Agree K G F) (hn : nt ≤ F.n) {S : AW} {G' : AF} {S' : AW}
    (he : evRT C rt (K.map fun t => (t, G.get t)) [] S G = some (G', S')) : ∃ F', evSI C l F S [] = some (F', S') ∧ Agree K G' F' ∧ nt ≤ F'.n := by
  obtain ⟨F', f1, f2⟩ := sym_ok (C := C) l [] nx [] rt hs F G _ [] S [] G' S' ⟨hA.1, hn, fun t o h => by simp [look] at h, fun t ht _ => ⟨by rw [getL_map K G.get ht, hA.2 t ht], (hA.2 t ht).symm⟩, hK, .nil⟩ he
  refine ⟨F', f1, f2, ?_⟩
  have := rt_n rt _ _ _ _ _ he
  simp only at this
  have h2 := f2.1
  have h3 := hA.1
  omega

/-- What a tree function's body comes to, and the other's. -/
theorem norm_ok {C : Callee} {K : List Nat} {nt nx : Nat} (hK : ∀ t ∈ K, t < nx) (n : Nat) : ∀ (ec : ECode) (xc : XCode), normC K nt nx ec = some xc → ∀ (F G : AF) (S : AW) (x : EX) (G' : AF) (S' : AW), Agree K G F → nt ≤ F.n →
    evX C K n xc G S = some (x, G', S') → ∃ F', evCode C n ec F S = some (x, F', S') ∧ Agree K G' F' ∧ nt ≤ F'.n := by
  intro ec
  induction ec with
  | skip =>
    intro xc h F G S x G' S' hA hn he
    simp only [normC, Option.some.injEq] at h
    subst h
    simp only [evX, Option.some.injEq, Prod.mk.injEq] at he
    obtain ⟨rfl, rfl, rfl⟩ := he
    exact ⟨F, rfl, hA, hn⟩
  | ops l =>
    intro xc h F G S x G' S' hA hn he
    simp only [normC] at h
    obtain ⟨rt, hrt, rfl⟩ := toRt_inv h
    simp only [evX] at he
    cases hev : evRT C rt (K.map fun t => (t, G.get t)) [] S G with
    | none => rw [hev] at he; simp [thenN] at he
    | some q =>
      obtain ⟨G1, S1⟩ := q
      rw [hev] at he
      simp only [thenN, Option.some.injEq, Prod.mk.injEq] at he
      obtain ⟨rfl, rfl, rfl⟩ := he
      obtain ⟨F', f1, f2, f3⟩ := rt_ok hrt hK hA hn hev
      rw [ops_si] at f1
      exact ⟨F', by simp only [evCode, f1, thenN], f2, f3⟩
  | dra all L m =>
    intro xc h F G S x G' S' hA hn he
    simp only [normC] at h
    split at h
    · rename_i hpl
      split at h
      · rename_i ol hol
        obtain ⟨rt, hrt, rfl⟩ := toRt_inv h
        simp only [evX] at he
        cases hev : evRT C rt (K.map fun t => (t, G.get t)) [] S G with
        | none => rw [hev] at he; simp [thenN] at he
        | some q =>
          obtain ⟨G1, S1⟩ := q
          rw [hev] at he
          simp only [thenN, Option.some.injEq, Prod.mk.injEq] at he
          obtain ⟨rfl, rfl, rfl⟩ := he
          obtain ⟨F', f1, f2, f3⟩ := rt_ok hrt hK hA hn hev
          exact ⟨F', by simp only [evCode, si_dra hpl hol f1, thenN], f2, f3⟩
      · cases h
    · cases h
  | seq a b iha ihb =>
    intro xc h F G S x G' S' hA hn he
    simp only [normC] at h
    split at h
    · rename_i xa xb ha hb
      simp only [Option.some.injEq] at h
      subst h
      simp only [evX] at he
      split at he
      · rename_i G1 S1 h1
        obtain ⟨F1, f1, f2, f3⟩ := iha xa ha F G S _ _ _ hA hn h1
        obtain ⟨F2, g1, g2, g3⟩ := ihb xb hb F1 G1 S1 _ _ _ f2 f3 he
        exact ⟨F2, by simp only [evCode, f1]; exact g1, g2, g3⟩
      · rename_i hne
        obtain ⟨F1, f1, f2, f3⟩ := iha xa ha F G S _ _ _ hA hn he
        refine ⟨F1, ?_, f2, f3⟩
        simp only [evCode, f1]
        cases x with
        | normal => exact absurd he (hne G' S')
        | exit id => rfl
        | ret => rfl
    · cases h
  | cond c a b iha ihb =>
    intro xc h F G S x G' S' hA hn he
    simp only [normC] at h
    split at h
    · rename_i hc
      split at h
      · rename_i xa xb ha hb
        simp only [Option.some.injEq] at h
        subst h
        have hcv : F.ev c = G.ev c := by
          cases c with
          | tmp t => exact (hA.2 t (by simpa [okK] using hc)).symm
          | _ => rfl
        simp only [evX] at he
        simp only [evCode, hcv]
        split at he
        · rename_i hv; simp only [hv]; exact iha xa ha F G S _ _ _ hA hn he
        · rename_i hv; simp only [hv]; exact ihb xb hb F G S _ _ _ hA hn he
        · cases he
      · cases h
    · cases h
  | block id a iha =>
    intro xc h F G S x G' S' hA hn he
    simp only [normC] at h
    split at h
    · rename_i xa ha
      simp only [Option.some.injEq] at h
      subst h
      simp only [evX] at he
      split at he
      · rename_i id' G1 S1 h1
        obtain ⟨F1, f1, f2, f3⟩ := iha xa ha F G S _ _ _ hA hn h1
        split at he
        · rename_i hid
          simp only [Option.some.injEq, Prod.mk.injEq] at he
          obtain ⟨rfl, rfl, rfl⟩ := he
          exact ⟨F1, by simp only [evCode, f1, if_pos hid], f2, f3⟩
        · rename_i hid
          simp only [Option.some.injEq, Prod.mk.injEq] at he
          obtain ⟨rfl, rfl, rfl⟩ := he
          exact ⟨F1, by simp only [evCode, f1, if_neg hid], f2, f3⟩
      · rename_i hne
        obtain ⟨F1, f1, f2, f3⟩ := iha xa ha F G S _ _ _ hA hn he
        refine ⟨F1, ?_, f2, f3⟩
        simp only [evCode, f1]
        cases x with
        | normal => rfl
        | exit id => exact absurd he (hne id G' S')
        | ret => rfl
    · cases h
  | loop a iha =>
    intro xc h F G S x G' S' hA hn he
    simp only [normC] at h
    split at h
    · rename_i xa ha
      simp only [Option.some.injEq] at h
      subst h
      simp only [evX] at he
      simp only [evCode]
      have key : ∀ (k : Nat) (F G : AF) (S : AW), Agree K G F → nt ≤ F.n → iter (evX C K n xa) k G S = some (x, G', S') → ∃ F', iter (evCode C n a) k F S = some (x, F', S') ∧ Agree K G' F' ∧ nt ≤ F'.n := by
        intro k
        induction k with
        | zero => intro F G S _ _ he; simp [iter] at he
        | succ k ih =>
          intro F G S hA hn he
          simp only [iter] at he
          split at he
          · rename_i G1 S1 h1
            obtain ⟨F1, f1, f2, f3⟩ := iha xa ha F G S _ _ _ hA hn h1
            obtain ⟨F2, g1, g2, g3⟩ := ih F1 G1 S1 f2 f3 he
            exact ⟨F2, by simp only [iter, f1]; exact g1, g2, g3⟩
          · rename_i hne
            obtain ⟨F1, f1, f2, f3⟩ := iha xa ha F G S _ _ _ hA hn he
            refine ⟨F1, ?_, f2, f3⟩
            simp only [iter, f1]
            cases x with
            | normal => exact absurd he (hne G' S')
            | exit id => rfl
            | ret => rfl
      exact key n F G S hA hn he
    · cases h
  | exit id =>
    intro xc h F G S x G' S' hA hn he
    simp only [normC, Option.some.injEq] at h
    subst h
    simp only [evX, Option.some.injEq, Prod.mk.injEq] at he
    obtain ⟨rfl, rfl, rfl⟩ := he
    exact ⟨F, rfl, hA, hn⟩
  | ret =>
    intro xc h F G S x G' S' hA hn he
    simp only [normC, Option.some.injEq] at h
    subst h
    simp only [evX, Option.some.injEq, Prod.mk.injEq] at he
    obtain ⟨rfl, rfl, rfl⟩ := he
    exact ⟨F, rfl, hA, hn⟩

def XFunc.enter (xf : XFunc) (args : List Value) : AF := ⟨args.length + (xf.ntmps - args.length), xf.K.map fun t => (t, (args[t]?).getD undef)⟩
def evXF0 (C : Callee) (n : Nat) (xf : XFunc) (args : List Value) (S : AW) : Option (Value × AW) :=
  finish xf.results (evX C xf.K n xf.body (xf.enter args) S)
def normF (K : List Nat) (nx : Nat) (ef : EFunc) : Option XFunc :=
  if (K.all fun t => decide (t < nx)) && (ef.results.all fun r => K.contains r.1) then
    match normC K ef.ntmps nx ef.body with
    | some xc => some ⟨ef.ntmps, K, nx, xc, ef.results⟩
    | none => none
  else none

theorem resV_agree {K : List Nat} {G F : AF} (hA : Agree K G F) (S : AW) : ∀ rs : List (Nat × Option (Option Nat)), (∀ r ∈ rs, r.1 ∈ K) → resV F S rs = resV G S rs
  | [], _ => rfl
  | (t, none) :: l, h => by
    have := hA.2 t (h (t, none) (by simp))
    simp only [resV, resV_agree hA S l fun r hr => h r (List.mem_cons_of_mem _ hr), this]
  | (t, some sz) :: l, h => by
    have := hA.2 t (h (t, some sz) (by simp))
    simp only [resV, resV_agree hA S l fun r hr => h r (List.mem_cons_of_mem _ hr), this]

theorem XF_ok0 {C : Callee} {n : Nat} {K : List Nat} {nx : Nat} {ef : EFunc} {xf : XFunc} (h : normF K nx ef = some xf) {args : List Value} {S : AW} {r : Value × AW} (he : evXF0 C n xf args S = some r) : evFn C n ef args S = some r := by
  unfold normF at h
  split at h
  · rename_i hk
    simp only [Bool.and_eq_true, List.all_eq_true, decide_eq_true_eq] at hk
    split at h
    · rename_i xc hxc
      simp only [Option.some.injEq] at h
      subst h
      unfold evXF0 finish at he
      split at he
      · cases he
      · rename_i x G' S' hne hx
        simp only at hx he
        have hA : Agree K (XFunc.enter ⟨ef.ntmps, K, nx, xc, ef.results⟩ args) (AF.enter ef.ntmps args) := by
          refine ⟨rfl, fun t ht => ?_⟩
          rw [enter_get]
          exact getL_map K (fun t => (args[t]?).getD undef) ht
        obtain ⟨F', f1, f2, f3⟩ := norm_ok (C := C) (fun t ht => hk.1 t ht) n ef.body xc hxc _ _ S x G' S' hA (by simp only [AF.enter]; omega) hx
        unfold evFn finish
        rw [f1]
        have hr := resV_agree f2 S' ef.results fun r hr => by simpa using hk.2 r hr
        cases x with
        | exit id => exact (hne id rfl).elim
        | normal => simp only [hr]; exact he
        | ret => simp only [hr]; exact he
      · cases he
    · cases h
  · cases h

end Go.Proofs.Ythclmjelknibhaa.Ev
