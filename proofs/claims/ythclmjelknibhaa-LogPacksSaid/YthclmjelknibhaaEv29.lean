/- Regions as trees: no slots but those that live on; tests once. The trees are made by a program that is proved here. -/
import Derived.Test.YthclmjelknibhaaEv28
namespace Go.Proofs.Ythclmjelknibhaa.Ev
open Go Go.RowKit
set_option linter.unusedVariables false
set_option linter.unusedSimpArgs false
set_option linter.unusedSectionVars false

inductive RT where
  | done (as : List (Nat × Operand))
  | step (x : Nat) (e : EOp) (k : RT)
  | save (x : Nat) (k : RT)
  | test (o : Operand) (t f : RT)
  | same (e : EOp) (q : Operand) (k : RT)
  | row (x : Nat) (q : Operand) (k : RT)

def getB : List (Nat × Value) → Nat → Value
  | [], _ => undef
  | (t, v) :: r, x => match Nat.beq x t with
    | true => v
    | false => getB r x
theorem getB_eq : ∀ (l : List (Nat × Value)) (x : Nat), getB l x = getL l x
  | [], _ => rfl
  | (t, v) :: r, x => by
    simp only [getB, getL]
    by_cases h : x = t
    · subst h
      have : Nat.beq x x = true := Nat.beq_refl x
      rw [this, if_pos rfl]
    · have : Nat.beq x t = false := by
        cases e : Nat.beq x t with
        | false => rfl
        | true => exact absurd (Nat.eq_of_beq_eq_true e) h
      rw [this, if_neg h]
      exact getB_eq r x
/-- What an operand is worth in a tree: .global stands for what was not reckoned. -/
def XE (l : List (Nat × Value)) : Operand → Value
  | .tmp t => getB l t
  | .const v => if flat v then v else bad
  | .global _ => undef
  | .func f => .func (.func f) #[] #[]
def applyAs (l : List (Nat × Value)) (G : AF) : List (Nat × Operand) → AF
  | [] => G
  | (t, o) :: r => (applyAs l G r).put t (XE l o)
def evRT (C : Callee) : RT → List (Nat × Value) → List (Nat × AW) → AW → AF → Option (AF × AW)
  | .done as, l, _, S, G => some (applyAs l G as, S)
  | .step x e k, l, sv, S, G => match e.runR (XE l) S with
    | some (.val v S') => evRT C k ((x, v) :: l) sv S' G
    | some (.call f args) => match C f args S with
      | some (v, S') => evRT C k ((x, v) :: l) sv S' G
      | none => none
    | none => none
  | .save x k, l, sv, S, G => evRT C k l ((x, S) :: sv) S G
  | .test o t f, l, sv, S, G => match XE l o with
    | .bool true => evRT C t l sv S G
    | .bool false => evRT C f l sv S G
    | _ => none
  | .same e q k, l, sv, S, G => match e.runR (XE l) S with
    | some (.val u _) => if veq u (XE l q) then evRT C k l sv S G else none
    | _ => none
  | .row x q k, l, sv, S, G => match look sv x with
    | some S0 => if rowSame S S0 (XE l q) then evRT C k l sv S G else none
    | none => none

abbrev Env := List (Nat × Operand)
def rn (K : List Nat) (env : Env) : Operand → Option Operand
  | .tmp t => match look env t with
    | some o => some o
    | none => if K.contains t then some (.tmp t) else none
  | .const v => some (.const v)
  | .func f => some (.func f)
  | .global _ => none
structure Pq where
  e : EOp
  rd : Bool
  q : Operand
  lo : Nat
  due : Nat
  x : Nat
def isT (y : Nat) : Operand → Bool
  | .tmp z => z == y
  | _ => false
/-- What is known of a test is put into the slots. -/
def asm (env : Env) (t y : Nat) (b : Bool) : Env := lput (env.map fun p => if isT y p.2 then (p.1, .const (.bool b)) else p) t (.const (.bool b))
abbrev Kont := Env → Nat → List Pq → Option RT
def symSkip (nt : Nat) (d : Option Nat) (env : Env) (nx : Nat) (ps : List Pq) (k : Kont) : Option RT :=
  match d with
  | none => k env nx ps
  | some d => if d < nt then k (lput env d (.global 0)) nx ps else none
def putD (nt : Nat) (d : Option Nat) (env : Env) (q : Operand) : Option Env :=
  match d with
  | none => some env
  | some d => if d < nt then some (lput env d q) else none
def symStep (K : List Nat) (nt : Nat) (e : EOp) (d : Option Nat) (pd : Option (Nat × Nat)) (env : Env) (nx : Nat) (ps : List Pq) (k : Kont) : Option RT :=
  if e.operands.all fun x => (rn K env x).isSome then
    match putD nt d env (.tmp nx) with
    | some env' =>
      let e' := e.mapO fun x => (rn K env x).getD x
      match pd with
      | none => match k env' (nx + 1) ps with
        | some r => some (.step nx e' r)
        | none => none
      | some (lo, due) => if e.kind == 1 then
          match k env' (nx + 1) (⟨e', true, .tmp nx, lo, due, 0⟩ :: ps) with
          | some r => some (.step nx e' r)
          | none => none
        else match k env' (nx + 2) (⟨e', false, .tmp nx, lo, due, nx + 1⟩ :: ps) with
          | some r => some (.step nx e' (.save (nx + 1) r))
          | none => none
    | none => none
  else none
def symMov (K : List Nat) (nt : Nat) (x : Operand) (d : Option Nat) (env : Env) (nx : Nat) (ps : List Pq) (k : Kont) : Option RT :=
  match rn K env x with
  | some q => match putD nt d env q with
    | some env' => k env' nx ps
    | none => none
  | none => none
def symX (K : List Nat) (nt : Nat) (e : EOp) (d : Option Nat) (pd : Option (Nat × Nat)) (env : Env) (nx : Nat) (ps : List Pq) (k : Kont) : Option RT :=
  match e, pd with
  | .mov x, none => symMov K nt x d env nx ps k
  | .pick (.tmp c) a b, none => match rn K env (.tmp c) with
    | some (.const (.bool true)) => symMov K nt a d env nx ps k
    | some (.const (.bool false)) => symMov K nt b d env nx ps k
    | some (.tmp y) => match symMov K nt a d (asm env c y true) nx ps k, symMov K nt b d (asm env c y false) nx ps k with
      | some r1, some r2 => some (.test (.tmp y) r1 r2)
      | _, _ => none
    | _ => none
  | e, pd => symStep K nt e d pd env nx ps k
def looksAt (j : Nat) : List Pq → RT → RT
  | [], k => k
  | p :: ps, k => if decide (p.lo ≤ j) && decide (j ≤ p.due) then (if p.rd then .same p.e p.q (looksAt j ps k) else .row p.x p.q (looksAt j ps k)) else looksAt j ps k
/-- What cannot be told is stuck. -/
def stuckT : RT := .test (.func 0) (.done []) (.done [])
def orS (o : Option RT) : Option RT :=
  match o with
  | some r => some r
  | none => some stuckT
theorem orS_inv {C : Callee} {o : Option RT} {r : RT} (h : orS o = some r) {l : List (Nat × Value)} {sv : List (Nat × AW)} {S : AW} {G : AF} {q : AF × AW} (he : evRT C r l sv S G = some q) : o = some r := by
  cases o with
  | some r' => exact h
  | none =>
    simp only [orS, Option.some.injEq] at h
    subst h
    simp [stuckT, evRT, XE] at he
def sym (K : List Nat) (nt : Nat) : List SI → Kont
  | [], env, _, _ => some (.done (env.filter fun p => K.contains p.1))
  | .chk j :: l, env, nx, ps => match sym K nt l env nx ps with
    | some k => some (looksAt j ps k)
    | none => none
  | .op o pd :: l, env, nx, ps => orS <| match o.guard with
    | none => symX K nt o.op o.dst pd env nx ps (sym K nt l)
    | some (t, want) => match rn K env (.tmp t) with
      | some (.const (.bool b)) => if b = want then symX K nt o.op o.dst pd env nx ps (sym K nt l) else symSkip nt o.dst env nx ps (sym K nt l)
      | some (.global _) => symSkip nt o.dst env nx ps (sym K nt l)
      | some (.tmp y) => match symX K nt o.op o.dst pd (asm env t y want) nx ps (sym K nt l), symSkip nt o.dst (asm env t y (!want)) nx ps (sym K nt l) with
        | some r1, some r2 => some (if want then .test (.tmp y) r1 r2 else .test (.tmp y) r2 r1)
        | _, _ => none
      | _ => none

theorem getL_cons {l : List (Nat × Value)} {x y : Nat} {v : Value} (h : y ≠ x) : getL ((x, v) :: l) y = getL l y := by simp [getL, h]
def okO (nx : Nat) : Operand → Prop
  | .tmp y => y < nx
  | _ => True
theorem XE_cons {l : List (Nat × Value)} {nx : Nat} {v : Value} {o : Operand} (h : okO nx o) {x : Nat} (hx : nx ≤ x) : XE ((x, v) :: l) o = XE l o := by
  cases o with
  | tmp y => have h : y < nx := h; simp only [XE, getB_eq]; exact getL_cons (Nat.ne_of_lt (Nat.lt_of_lt_of_le h hx))
  | _ => rfl
theorem okO_mono {n m : Nat} (h : n ≤ m) {o : Operand} (k : okO n o) : okO m o := by
  cases o with
  | tmp y => have k : y < n := k; exact Nat.lt_of_lt_of_le k h
  | _ => trivial

/-- A look that is owed, and how it is told. -/
structure PRel (l : List (Nat × Value)) (sv : List (Nat × AW)) (nx : Nat) (p : Pd) (q : Pq) : Prop where
  lo : q.lo = p.lo
  due : q.due = p.due
  rd : q.rd = (p.e.kind == 1)
  val : p.v = XE l q.q
  okq : okO nx q.q
  read : q.rd = true → (∀ S, p.e.run p.F S = q.e.runR (XE l) S) ∧ ∀ x ∈ q.e.operands, okO nx x
  row : q.rd = false → look sv q.x = some p.S' ∧ q.x < nx
inductive PRels (l : List (Nat × Value)) (sv : List (Nat × AW)) (nx : Nat) : List Pd → List Pq → Prop
  | nil : PRels l sv nx [] []
  | cons {p q ps qs} (h : PRel l sv nx p q) (t : PRels l sv nx ps qs) : PRels l sv nx (p :: ps) (q :: qs)

structure SInv (K : List Nat) (nt : Nat) (env : Env) (nx : Nat) (qs : List Pq) (F G : AF) (l : List (Nat × Value)) (sv : List (Nat × AW)) (ps : List Pd) : Prop where
  hn : G.n = F.n
  hnt : nt ≤ F.n
  ev : ∀ t o, look env t = some o → F.get t = XE l o ∧ okO nx o
  slots : ∀ t ∈ K, look env t = none → F.get t = getL l t ∧ F.get t = G.get t
  kk : ∀ t ∈ K, t < nx
  pr : PRels l sv nx ps qs

theorem SInv.rn {K : List Nat} {nt : Nat} {env : Env} {nx : Nat} {qs : List Pq} {F G : AF} {l : List (Nat × Value)} {sv : List (Nat × AW)} {ps : List Pd} (h : SInv K nt env nx qs F G l sv ps) {x q : Operand} (e : rn K env x = some q) : F.ev x = XE l q ∧ okO nx q := by
  cases x with
  | tmp t =>
    simp only [Ev.rn] at e
    split at e
    · rename_i o ho
      simp only [Option.some.injEq] at e
      subst e
      exact h.ev t o ho
    · rename_i ho
      split at e
      · rename_i hk
        simp only [Option.some.injEq] at e
        subst e
        have hk : t ∈ K := by simpa using hk
        exact ⟨(h.slots t hk ho).1.trans (getB_eq _ _).symm, h.kk t hk⟩
      · cases e
  | const v => simp only [Ev.rn, Option.some.injEq] at e; subst e; exact ⟨rfl, trivial⟩
  | func f => simp only [Ev.rn, Option.some.injEq] at e; subst e; exact ⟨rfl, trivial⟩
  | global g => simp [Ev.rn] at e

theorem SInv.put {K : List Nat} {nt : Nat} {env : Env} {nx : Nat} {qs : List Pq} {F G : AF} {l : List (Nat × Value)} {sv : List (Nat × AW)} {ps : List Pd} (h : SInv K nt env nx qs F G l sv ps) {d : Option Nat} {q : Operand} {env' : Env} (e : putD nt d env q = some env')
    {v : Value} (hv : v = XE l q) (hq : okO nx q) : ∃ F', F.dst d v = some F' ∧ SInv K nt env' nx qs F' G l sv ps := by
  cases d with
  | none =>
    simp only [putD, Option.some.injEq] at e
    subst e
    exact ⟨F, rfl, h⟩
  | some d =>
    simp only [putD] at e
    split at e
    · rename_i hlt
      simp only [Option.some.injEq] at e
      subst e
      refine ⟨F.put d v, by simp only [AF.dst]; rw [if_pos (Nat.lt_of_lt_of_le hlt h.hnt)], h.hn, h.hnt, fun t o ho => ?_, fun t ht ho => ?_, h.kk, h.pr⟩
      · rw [look_lput] at ho
        rw [AF.get_put]
        split at ho
        · rename_i htd
          simp only [Option.some.injEq] at ho
          subst ho
          rw [if_pos htd]
          exact ⟨hv, hq⟩
        · rename_i htd
          rw [if_neg htd]
          exact h.ev t o ho
      · rw [look_lput] at ho
        split at ho
        · cases ho
        · rename_i htd
          rw [AF.get_put, if_neg htd]
          exact h.slots t ht ho
    · cases e

theorem look_map (f : Operand → Operand) : ∀ (env : Env) (t : Nat), look (env.map fun p => (p.1, f p.2)) t = (look env t).map f
  | [], t => rfl
  | (u, o) :: r, t => by
    simp only [List.map_cons, look]
    split
    · rfl
    · exact look_map f r t
theorem SInv.asm {K : List Nat} {nt : Nat} {env : Env} {nx : Nat} {qs : List Pq} {F G : AF} {l : List (Nat × Value)} {sv : List (Nat × AW)} {ps : List Pd} (h : SInv K nt env nx qs F G l sv ps) {t y : Nat} {b : Bool} (ht : F.get t = .bool b) (hy : getL l y = .bool b) :
    SInv K nt (asm env t y b) nx qs F G l sv ps := by
  have hm : (env.map fun p => if isT y p.2 then (p.1, Operand.const (.bool b)) else p) = env.map fun p => (p.1, if isT y p.2 then Operand.const (.bool b) else p.2) := by
    apply List.map_congr_left
    intro p _
    split <;> rfl
  refine ⟨h.hn, h.hnt, fun s o ho => ?_, fun s hs ho => ?_, h.kk, h.pr⟩
  · unfold Ev.asm at ho
    rw [look_lput] at ho
    split at ho
    · rename_i hst
      simp only [Option.some.injEq] at ho
      subst ho
      rw [hst, ht]
      exact ⟨rfl, trivial⟩
    · rw [hm, look_map (fun o' => if isT y o' then Operand.const (.bool b) else o')] at ho
      obtain ⟨o', ho', ho⟩ := Option.map_eq_some_iff.mp ho
      obtain ⟨q1, q2⟩ := h.ev s o' ho'
      split at ho
      · rename_i hisT
        subst ho
        have : o' = .tmp y := by
          cases o' with
          | tmp z => simp only [isT, beq_iff_eq] at hisT; rw [hisT]
          | _ => simp [isT] at hisT
        subst this
        refine ⟨?_, trivial⟩
        rw [q1]
        simp only [XE, getB_eq]
        rw [hy]; rfl
      · subst ho; exact ⟨q1, q2⟩
  · unfold Ev.asm at ho
    rw [look_lput] at ho
    split at ho
    · cases ho
    · rw [hm, look_map (fun o' => if isT y o' then Operand.const (.bool b) else o')] at ho
      exact h.slots s hs (by cases e : look env s with | none => rfl | some x => rw [e] at ho; simp at ho)

def Agree (K : List Nat) (G F : AF) : Prop := G.n = F.n ∧ ∀ t ∈ K, G.get t = F.get t

/-- What an operation comes to, its guard put aside. -/
def goE (C : Callee) (e : EOp) (F : AF) (S : AW) : Option (Value × AW × Bool) :=
  match e.run F S with
  | some (.val v S') => some (v, S', true)
  | some (.call f args) => match C f args S with
    | some (v, S') => some (v, S', true)
    | none => none
  | none => none
/-- What follows it. -/
def after1 (C : Callee) (o : EOp) (d : Option Nat) (pd : Option (Nat × Nat)) (l : List SI) (F : AF) (ps : List Pd) : Option (Value × AW × Bool) → Option (AF × AW)
  | some (v, S', ran) => match F.dst d v with
    | some F' => evSI C l F' S' (addPd pd ran (fun a b => ⟨o, F, v, a, b, S'⟩) ps)
    | none => none
  | none => none
theorem evSI_op (C : Callee) (o : EOper) (pd : Option (Nat × Nat)) (l : List SI) (F : AF) (S : AW) (ps : List Pd) : evSI C (.op o pd :: l) F S ps = after1 C o.op o.dst pd l F ps (evE C o F S) := by
  simp only [evSI, after1]
  cases evE C o F S with
  | none => rfl
  | some r => rfl

theorem PRels.cons_val {l : List (Nat × Value)} {sv : List (Nat × AW)} {nx : Nat} {ps : List Pd} {qs : List Pq} (h : PRels l sv nx ps qs) {x : Nat} (hx : nx ≤ x) {v : Value} {m : Nat} (hm : nx ≤ m) : PRels ((x, v) :: l) sv m ps qs := by
  induction h with
  | nil => exact .nil
  | cons h t ih =>
    refine .cons ⟨h.lo, h.due, h.rd, ?_, okO_mono hm h.okq, fun hr => ?_, fun hr => ⟨(h.row hr).1, by have := (h.row hr).2; omega⟩⟩ ih
    · rw [XE_cons h.okq hx]; exact h.val
    · obtain ⟨r1, r2⟩ := h.read hr
      exact ⟨fun S => by rw [r1 S]; exact runR_congr fun o ho => (XE_cons (r2 o ho) hx).symm, fun o ho => okO_mono hm (r2 o ho)⟩
theorem PRels.cons_save {l : List (Nat × Value)} {sv : List (Nat × AW)} {nx : Nat} {ps : List Pd} {qs : List Pq} (h : PRels l sv nx ps qs) {x : Nat} (hx : nx ≤ x) {S : AW} {m : Nat} (hm : nx ≤ m) : PRels l ((x, S) :: sv) m ps qs := by
  induction h with
  | nil => exact .nil
  | cons h t ih =>
    refine .cons ⟨h.lo, h.due, h.rd, h.val, okO_mono hm h.okq, fun hr => ⟨(h.read hr).1, fun o ho => okO_mono hm ((h.read hr).2 o ho)⟩, fun hr => ?_⟩ ih
    obtain ⟨r1, r2⟩ := h.row hr
    refine ⟨?_, by omega⟩
    unfold look
    rw [if_neg (by omega)]
    exact r1
theorem SInv.cons_val {K : List Nat} {nt : Nat} {env : Env} {nx : Nat} {qs : List Pq} {F G : AF} {l : List (Nat × Value)} {sv : List (Nat × AW)} {ps : List Pd} (h : SInv K nt env nx qs F G l sv ps) {x : Nat} (hx : nx ≤ x) (v : Value) {m : Nat} (hm : nx ≤ m) : SInv K nt env m qs F G ((x, v) :: l) sv ps :=
  ⟨h.hn, h.hnt, fun t o ho => ⟨by rw [XE_cons (h.ev t o ho).2 hx]; exact (h.ev t o ho).1, okO_mono hm (h.ev t o ho).2⟩,
    fun t ht ho => ⟨by rw [getL_cons (by have := h.kk t ht; omega)]; exact (h.slots t ht ho).1, (h.slots t ht ho).2⟩, fun t ht => by have := h.kk t ht; omega, h.pr.cons_val hx hm⟩

/-- What a rest of the walk is good for. -/
def KOk (C : Callee) (K : List Nat) (nt : Nat) (l : List SI) (k : Kont) : Prop := ∀ env nx qs rt, k env nx qs = some rt → ∀ F G lv sv S ps G' S', SInv K nt env nx qs F G lv sv ps → evRT C rt lv sv S G = some (G', S') →
  ∃ F', evSI C l F S ps = some (F', S') ∧ Agree K G' F'

section
variable {C : Callee} {K : List Nat} {nt : Nat} {l : List SI} {k : Kont} (hk : KOk C K nt l k)
include hk

theorem skip_ok {d : Option Nat} {pd : Option (Nat × Nat)} {env : Env} {nx : Nat} {qs : List Pq} {rt : RT} (hs : symSkip nt d env nx qs k = some rt) {F G : AF} {lv : List (Nat × Value)} {sv : List (Nat × AW)} {S : AW} {ps : List Pd} {G' : AF} {S' : AW}
    (h : SInv K nt env nx qs F G lv sv ps) (he : evRT C rt lv sv S G = some (G', S')) (o : EOp) : ∃ F', after1 C o d pd l F ps (some (undef, S, false)) = some (F', S') ∧ Agree K G' F' := by
  have hadd : ∀ (F' : AF), addPd pd false (fun a b => (⟨o, F, undef, a, b, S⟩ : Pd)) ps = ps := fun F' => by unfold addPd; cases pd <;> rfl
  cases d with
  | none =>
    simp only [symSkip] at hs
    obtain ⟨F', f1, f2⟩ := hk env nx qs rt hs F G lv sv S ps G' S' h he
    exact ⟨F', by simp only [after1, AF.dst, hadd F]; exact f1, f2⟩
  | some d =>
    simp only [symSkip] at hs
    split at hs
    · rename_i hlt
      obtain ⟨F1, g1, g2⟩ := h.put (d := some d) (q := .global 0) (env' := lput env d (.global 0)) (by simp [putD, hlt]) (v := undef) rfl trivial
      obtain ⟨F', f1, f2⟩ := hk _ nx qs rt hs F1 G lv sv S ps G' S' g2 he
      exact ⟨F', by simp only [after1, g1, hadd F]; exact f1, f2⟩
    · cases hs

theorem mov_ok {x : Operand} {d : Option Nat} {env : Env} {nx : Nat} {qs : List Pq} {rt : RT} (hs : symMov K nt x d env nx qs k = some rt) {F G : AF} {lv : List (Nat × Value)} {sv : List (Nat × AW)} {S : AW} {ps : List Pd} {G' : AF} {S' : AW}
    (h : SInv K nt env nx qs F G lv sv ps) (he : evRT C rt lv sv S G = some (G', S')) (o : EOp) : ∃ F', after1 C o d none l F ps (some (F.ev x, S, true)) = some (F', S') ∧ Agree K G' F' := by
  simp only [symMov] at hs
  split at hs
  · rename_i q hq
    split at hs
    · rename_i env' he'
      obtain ⟨r1, r2⟩ := h.rn hq
      obtain ⟨F1, g1, g2⟩ := h.put he' r1 r2
      obtain ⟨F', f1, f2⟩ := hk env' nx qs rt hs F1 G lv sv S ps G' S' g2 he
      exact ⟨F', by simp only [after1, g1, addPd]; exact f1, f2⟩
    · cases hs
  · cases hs

theorem step_ok2 {e : EOp} {d : Option Nat} {pd : Option (Nat × Nat)} {env : Env} {nx : Nat} {qs : List Pq} {rt : RT} (hs : symStep K nt e d pd env nx qs k = some rt) {F G : AF} {lv : List (Nat × Value)} {sv : List (Nat × AW)} {S : AW} {ps : List Pd} {G' : AF} {S' : AW}
    (h : SInv K nt env nx qs F G lv sv ps) (he : evRT C rt lv sv S G = some (G', S')) : ∃ F', after1 C e d pd l F ps (goE C e F S) = some (F', S') ∧ Agree K G' F' := by
  simp only [symStep] at hs
  split at hs
  · rename_i hall
    have hall : ∀ x ∈ e.operands, (rn K env x).isSome = true := by simpa [List.all_eq_true] using hall
    split at hs
    · rename_i env' henv
      let f : Operand → Operand := fun x => (rn K env x).getD x
      have hf : ∀ x ∈ e.operands, rn K env x = some (f x) := by
        intro x hx
        obtain ⟨q, hq⟩ := Option.isSome_iff_exists.mp (hall x hx)
        show _ = some ((rn K env x).getD x)
        rw [hq]; rfl
      have hrun : ∀ S, e.run F S = (e.mapO f).runR (XE lv) S := by
        intro S
        rw [run_runR, runR_mapO]
        exact runR_congr fun x hx => (h.rn (hf x hx)).1
      have hokq : ∀ x ∈ (e.mapO f).operands, okO nx x := by
        have hop : ∀ x ∈ (e.mapO f).operands, ∃ y ∈ e.operands, x = f y := by
          intro x hx
          cases e <;> simp only [EOp.mapO, EOp.operands, List.mem_cons, List.not_mem_nil, or_false, List.mem_append, List.mem_map, Option.mem_toList, Option.map_eq_some_iff] at hx ⊢
          all_goals
            first
            | (cases hx; done)
            | (rcases hx with h1 | h1 | h1 <;> exact ⟨_, by simp, h1⟩)
            | (rcases hx with h1 | h1 <;> exact ⟨_, by simp, h1⟩)
            | exact ⟨_, rfl, hx⟩
            | (obtain ⟨y, hy, rfl⟩ := hx; exact ⟨y, hy, rfl⟩)
            | (obtain ⟨p, ⟨p', hp', rfl⟩, rfl⟩ := hx; exact ⟨p'.2.2, ⟨p', hp', rfl⟩, rfl⟩)
            | (rcases hx with (h1 | ⟨y, hy, rfl⟩) | ⟨y, hy, rfl⟩
               · exact ⟨_, .inl (.inl rfl), h1⟩
               · exact ⟨y, .inl (.inr hy), rfl⟩
               · exact ⟨y, .inr hy, rfl⟩)
            | (rcases hx with ((h1 | ⟨y, hy, rfl⟩) | ⟨y, hy, rfl⟩) | ⟨y, hy, rfl⟩
               · exact ⟨_, .inl (.inl (.inl rfl)), h1⟩
               · exact ⟨y, .inl (.inl (.inr hy)), rfl⟩
               · exact ⟨y, .inl (.inr hy), rfl⟩
               · exact ⟨y, .inr hy, rfl⟩)
            | (rcases hx with ⟨y, hy, rfl⟩ | ⟨y, hy, rfl⟩
               · exact ⟨y, .inl hy, rfl⟩
               · exact ⟨y, .inr hy, rfl⟩)
            | (rcases hx with h1 | ⟨y, hy, rfl⟩
               · exact ⟨_, .inl rfl, h1⟩
               · exact ⟨y, .inr hy, rfl⟩)
        intro x hx
        obtain ⟨y, hy, rfl⟩ := hop x hx
        exact (h.rn (hf y hy)).2
      -- what the step comes to
      have key : ∀ (v : Value) (S1 : AW) (rt1 : RT) (sv1 : List (Nat × AW)) (m : Nat) (ps1 : List Pd) (qs1 : List Pq), nx + 1 ≤ m → goE C e F S = some (v, S1, true) → addPd pd true (fun a b => (⟨e, F, v, a, b, S1⟩ : Pd)) ps = ps1 →
          PRels ((nx, v) :: lv) sv1 m ps1 qs1 → k env' m qs1 = some rt1 → evRT C rt1 ((nx, v) :: lv) sv1 S1 G = some (G', S') → ∃ F', after1 C e d pd l F ps (goE C e F S) = some (F', S') ∧ Agree K G' F' := by
        intro v S1 rt1 sv1 m ps1 qs1 hm hgo hadd hps hkk hev
        have h1 := h.cons_val (Nat.le_refl nx) v (m := m) (by omega)
        have h2 : SInv K nt env m qs1 F G ((nx, v) :: lv) sv1 ps1 := ⟨h1.hn, h1.hnt, h1.ev, h1.slots, h1.kk, hps⟩
        obtain ⟨F1, g1, g2⟩ := h2.put henv (v := v) (by simp [XE, getB_eq, getL]) (show nx < m by omega)
        obtain ⟨F', f1, f2⟩ := hk env' m qs1 rt1 hkk F1 G _ sv1 S1 ps1 G' S' g2 hev
        exact ⟨F', by rw [hgo]; simp only [after1, g1, hadd]; exact f1, f2⟩
      have hgo : ∀ (rt1 : RT) (x : Nat), evRT C (.step x (e.mapO f) rt1) lv sv S G = some (G', S') → ∃ v S1, goE C e F S = some (v, S1, true) ∧ evRT C rt1 ((x, v) :: lv) sv S1 G = some (G', S') := by
        intro rt1 x hev
        simp only [evRT] at hev
        rw [← hrun] at hev
        unfold goE
        split at hev
        · rename_i v S1 hr
          exact ⟨v, S1, by first | rfl | rw [hr], hev⟩
        · rename_i g args hr
          split at hev
          · rename_i v S1 hc
            exact ⟨v, S1, by first | rfl | (rw [hr]; simp only [hc]) | simp only [hc], hev⟩
          · cases hev
        · cases hev
      cases pd with
      | none =>
        simp only at hs
        split at hs
        · rename_i rt1 hrt
          simp only [Option.some.injEq] at hs
          subst hs
          obtain ⟨v, S1, h1, h2⟩ := hgo rt1 nx he
          exact key v S1 rt1 sv (nx + 1) ps qs (Nat.le_refl _) h1 rfl (h.pr.cons_val (Nat.le_refl nx) (by omega)) hrt h2
        · cases hs
      | some pr =>
        obtain ⟨lo, due⟩ := pr
        simp only at hs
        split at hs
        · rename_i hkind
          split at hs
          · rename_i rt1 hrt
            simp only [Option.some.injEq] at hs
            subst hs
            obtain ⟨v, S1, h1, h2⟩ := hgo rt1 nx he
            refine key v S1 rt1 sv (nx + 1) _ _ (Nat.le_refl _) h1 rfl ?_ hrt h2
            refine .cons ⟨rfl, rfl, hkind.symm, by simp [XE, getB_eq, getL], show nx < nx + 1 by omega, fun _ => ⟨fun S => ?_, fun x hx => okO_mono (by omega) (hokq x hx)⟩, fun hr => nomatch hr⟩ (h.pr.cons_val (Nat.le_refl nx) (by omega))
            show e.run F S = _
            rw [hrun]
            exact runR_congr fun x hx => (XE_cons (hokq x hx) (Nat.le_refl nx)).symm
          · cases hs
        · rename_i hkind
          split at hs
          · rename_i rt1 hrt
            simp only [Option.some.injEq] at hs
            subst hs
            obtain ⟨v, S1, h1, h2⟩ := hgo (.save (nx + 1) rt1) nx he
            simp only [evRT] at h2
            refine key v S1 rt1 ((nx + 1, S1) :: sv) (nx + 2) _ _ (by omega) h1 rfl ?_ hrt h2
            refine .cons ⟨rfl, rfl, by simpa using hkind, by simp [XE, getB_eq, getL], show nx < nx + 2 by omega, fun hr => (nomatch hr), fun _ => ⟨by simp [look], (by show nx + 1 < nx + 2; omega)⟩⟩ ?_
            exact (h.pr.cons_val (m := nx + 1) (Nat.le_refl nx) (by omega)).cons_save (Nat.le_refl _) (by omega)
          · cases hs
    · cases hs
  · cases hs

theorem symX_ok {e : EOp} {d : Option Nat} {pd : Option (Nat × Nat)} {env : Env} {nx : Nat} {qs : List Pq} {rt : RT} (hs : symX K nt e d pd env nx qs k = some rt) {F G : AF} {lv : List (Nat × Value)} {sv : List (Nat × AW)} {S : AW} {ps : List Pd} {G' : AF} {S' : AW}
    (h : SInv K nt env nx qs F G lv sv ps) (he : evRT C rt lv sv S G = some (G', S')) : ∃ F', after1 C e d pd l F ps (goE C e F S) = some (F', S') ∧ Agree K G' F' := by
  unfold symX at hs
  split at hs
  · rename_i x
    exact mov_ok hk hs h he _
  · rename_i c x y
    split at hs
    · rename_i hc
      have := (h.rn hc).1
      have e1 : goE C (.pick (.tmp c) x y) F S = some (F.ev x, S, true) := by simp only [goE, EOp.run, this]; simp [XE, flat, scalar]
      rw [e1]
      exact mov_ok hk hs h he _
    · rename_i hc
      have := (h.rn hc).1
      have e1 : goE C (.pick (.tmp c) x y) F S = some (F.ev y, S, true) := by simp only [goE, EOp.run, this]; simp [XE, flat, scalar]
      rw [e1]
      exact mov_ok hk hs h he _
    · rename_i z hc
      split at hs
      · rename_i r1 r2 hr1 hr2
        simp only [Option.some.injEq] at hs
        subst hs
        have hcv := (h.rn hc).1
        have hcv : F.get c = getL lv z := hcv.trans (getB_eq _ _)
        simp only [evRT] at he
        split at he
        · rename_i hb
          have hb : getL lv z = .bool true := (getB_eq _ _).symm.trans hb
          rw [hb] at hcv
          have e1 : goE C (.pick (.tmp c) x y) F S = some (F.ev x, S, true) := by
            have : F.ev (.tmp c) = .bool true := hcv
            simp only [goE, EOp.run, this]; simp
          rw [e1]
          exact mov_ok hk hr1 (h.asm hcv hb) he _
        · rename_i hb
          have hb : getL lv z = .bool false := (getB_eq _ _).symm.trans hb
          rw [hb] at hcv
          have e1 : goE C (.pick (.tmp c) x y) F S = some (F.ev y, S, true) := by
            have : F.ev (.tmp c) = .bool false := hcv
            simp only [goE, EOp.run, this]; simp
          rw [e1]
          exact mov_ok hk hr2 (h.asm hcv hb) he _
        · cases he
      · cases hs
    · cases hs
  · exact step_ok2 hk hs h he
end

theorem looks_ok {C : Callee} {l : List (Nat × Value)} {sv : List (Nat × AW)} {nx : Nat} {j : Nat} {S : AW} {G : AF} {r : AF × AW} : ∀ {ps : List Pd} {qs : List Pq}, PRels l sv nx ps qs → ∀ k, evRT C (looksAt j qs k) l sv S G = some r →
    (ps.all fun p => p.ok j S) = true ∧ evRT C k l sv S G = some r := by
  intro ps qs h
  induction h with
  | nil => exact fun k he => ⟨rfl, he⟩
  | cons h t ih =>
    rename_i p q ps qs
    intro k he
    simp only [looksAt] at he
    split at he
    · rename_i hin
      rw [h.lo, h.due] at hin
      split at he
      · rename_i hrd
        simp only [evRT] at he
        split at he
        · rename_i u _ hr
          split at he
          · rename_i hv
            obtain ⟨i1, i2⟩ := ih k he
            refine ⟨?_, i2⟩
            rw [List.all_cons, i1, Bool.and_true]
            unfold Pd.ok
            rw [if_pos hin]
            have := h.rd
            rw [hrd] at this
            rw [if_pos this.symm]
            unfold readOk
            rw [(h.read hrd).1 S, hr]
            simp only
            rw [h.val]; exact hv
          · cases he
        · cases he
      · rename_i hrd
        have hrd : q.rd = false := by simpa using hrd
        simp only [evRT] at he
        split at he
        · rename_i S0 hS0
          split at he
          · rename_i hv
            obtain ⟨i1, i2⟩ := ih k he
            refine ⟨?_, i2⟩
            rw [List.all_cons, i1, Bool.and_true]
            unfold Pd.ok
            rw [if_pos hin]
            have := h.rd
            rw [hrd] at this
            rw [if_neg (by rw [← this]; simp)]
            have hrow := (h.row hrd).1
            rw [hS0] at hrow
            simp only [Option.some.injEq] at hrow
            rw [← hrow, h.val]; exact hv
          · cases he
        · cases he
    · rename_i hin
      rw [h.lo, h.due] at hin
      obtain ⟨i1, i2⟩ := ih k he
      refine ⟨?_, i2⟩
      rw [List.all_cons, i1, Bool.and_true]
      unfold Pd.ok
      rw [if_neg hin]

theorem apply_get {l : List (Nat × Value)} {G : AF} : ∀ (as : List (Nat × Operand)) (t : Nat), (applyAs l G as).get t = (match look as t with | some o => XE l o | none => G.get t) ∧ (applyAs l G as).n = G.n
  | [], t => ⟨rfl, rfl⟩
  | (u, o) :: r, t => by
    obtain ⟨i1, i2⟩ := apply_get (l := l) (G := G) r t
    refine ⟨?_, i2⟩
    simp only [applyAs, AF.get_put, look]
    by_cases h : t = u
    · rw [if_pos h, if_pos h]
    · rw [if_neg h, if_neg h]; exact i1
theorem look_filter (K : List Nat) {t : Nat} (ht : t ∈ K) : ∀ env : Env, look (env.filter fun p => K.contains p.1) t = look env t
  | [] => rfl
  | (u, o) :: r => by
    rw [List.filter_cons]
    by_cases hu : K.contains u = true
    · rw [if_pos hu]
      simp only [look]
      split
      · rfl
      · exact look_filter K ht r
    · rw [if_neg hu]
      have : t ≠ u := by rintro rfl; exact hu (by simpa using ht)
      simp only [look]
      rw [if_neg this]
      exact look_filter K ht r

/-- The tree does what the steps do. -/
theorem sym_ok {C : Callee} {K : List Nat} {nt : Nat} : ∀ l : List SI, KOk C K nt l (sym K nt l)
  | [] => by
    intro env nx qs rt hs F G lv sv S ps G' S' h he
    simp only [sym, Option.some.injEq] at hs
    subst hs
    simp only [evRT, Option.some.injEq, Prod.mk.injEq] at he
    obtain ⟨rfl, rfl⟩ := he
    refine ⟨F, rfl, by rw [(apply_get _ 0).2, h.hn], fun t ht => ?_⟩
    rw [(apply_get _ t).1, look_filter K ht]
    cases e : look env t with
    | none => exact (h.slots t ht e).2.symm
    | some o => exact (h.ev t o e).1.symm
  | .chk j :: l => by
    intro env nx qs rt hs F G lv sv S ps G' S' h he
    simp only [sym] at hs
    split at hs
    · rename_i k hk
      simp only [Option.some.injEq] at hs
      subst hs
      obtain ⟨i1, i2⟩ := looks_ok h.pr k he
      obtain ⟨F', f1, f2⟩ := sym_ok l env nx qs k hk F G lv sv S ps G' S' h i2
      exact ⟨F', by simp only [evSI, i1, if_true]; exact f1, f2⟩
    · cases hs
  | .op o pd :: l => by
    intro env nx qs rt hs F G lv sv S ps G' S' h he
    rw [evSI_op]
    rw [sym] at hs
    have hs := orS_inv hs he
    have ih := sym_ok (C := C) (K := K) (nt := nt) l
    cases hg : o.guard with
    | none =>
      simp only [hg] at hs
      have : evE C o F S = goE C o.op F S := by simp only [evE, hg]; rfl
      rw [this]
      exact symX_ok ih hs h he
    | some tw =>
      obtain ⟨t, want⟩ := tw
      simp only [hg] at hs
      have hrun : F.get t = .bool want → evE C o F S = goE C o.op F S := by
        intro hb
        have : gd (.bool want) want = some true := by simp [gd]
        simp only [evE, hg, hb, this]; rfl
      have hskip : ∀ b, b ≠ want → F.get t = .bool b → evE C o F S = some (undef, S, false) := by
        intro b hbw hb
        have : gd (.bool b) want = some false := by simp [gd, hbw]
        simp only [evE, hg, hb, this]
      split at hs
      · rename_i b hb
        have hv : F.get t = .bool b := by
          have := (h.rn hb).1
          simpa [AF.ev, XE, flat, scalar] using this
        split at hs
        · rename_i hbw
          rw [hrun (by rw [hv, hbw])]
          exact symX_ok ih hs h he
        · rename_i hbw
          rw [hskip b hbw hv]
          exact skip_ok ih hs h he _
      · rename_i y hy
        have hv : F.get t = undef := (h.rn hy).1
        have : evE C o F S = some (undef, S, false) := by
          have : gd undef want = some false := rfl
          simp only [evE, hg, hv, this]
        rw [this]
        exact skip_ok ih hs h he _
      · rename_i y hy
        have hv : F.get t = getL lv y := (h.rn hy).1.trans (getB_eq _ _)
        split at hs
        · rename_i r1 r2 hr1 hr2
          simp only [Option.some.injEq] at hs
          subst hs
          have hcase : ∀ b, getL lv y = .bool b → evRT C (if b = want then r1 else r2) lv sv S G = some (G', S') → ∃ F', after1 C o.op o.dst pd l F ps (evE C o F S) = some (F', S') ∧ Agree K G' F' := by
            intro b hb hev
            rw [hb] at hv
            by_cases hbw : b = want
            · rw [if_pos hbw] at hev
              subst hbw
              rw [hrun hv]
              exact symX_ok ih hr1 (h.asm hv hb) hev
            · rw [if_neg hbw] at hev
              rw [hskip b hbw hv]
              have hb2 : b = !want := by cases b <;> cases want <;> simp at hbw ⊢
              exact skip_ok ih hr2 (h.asm (by rw [hv, hb2]) (by rw [hb, hb2])) hev _
          cases want with
          | true =>
            simp only [if_true, evRT] at he
            split at he
            · rename_i hb; exact hcase true ((getB_eq _ _).symm.trans hb) (by simpa using he)
            · rename_i hb; exact hcase false ((getB_eq _ _).symm.trans hb) (by simpa using he)
            · cases he
          | false =>
            simp only [Bool.false_eq_true, if_false, evRT] at he
            split at he
            · rename_i hb; exact hcase true ((getB_eq _ _).symm.trans hb) (by simpa using he)
            · rename_i hb; exact hcase false ((getB_eq _ _).symm.trans hb) (by simpa using he)
            · cases he
        · cases hs
      · cases hs
end Go.Proofs.Ythclmjelknibhaa.Ev
