/- Maps and calls in the plain form; all operations together; trees and code; functions. -/
import Derived.Test.YthclmjelknibhaaEvU5
import Derived.Test.YthclmjelknibhaaEvN
namespace Go.Proofs.Ythclmjelknibhaa.Ev
open Go Go.RowKit
set_option linter.unusedVariables false
set_option linter.constructorNameAsVariable false
set_option linter.unusedSimpArgs false
set_option linter.unusedSectionVars false

-- keys
noncomputable def idKU (k : IntKind) : Nat := IntKind.rec (motive := fun _ => Nat) 0 1 2 3 4 5 6 7 k
theorem idKU_eq (k q : IntKind) : Nat.beq (idKU k) (idKU q) = decide (k = q) := by cases k <;> cases q <;> rfl
/-- A key of a kind goes on. -/
noncomputable def fitKU (l : KL) (v : FV) (r : RU) : RU :=
  KL.rec (motive := fun _ => RU) (eS v fun s => cn (Nat.ble (lenU s) 9223372036854775807) r .no)
    (fun q => eNBS v (fun m => cn (an (Nat.beq (idKU q) 3) (Nat.ble m 9223372036854775807)) r .no) (fun m => cn (an (Nat.beq (idKU q) 4) (Nat.ble m 255)) r .no) (fun _ => .no) (cn (fitsL (.int q) (toV v)) r .no)) (eT v fun _ => r) l
theorem fitKU_inv {l : KL} {w : FV} {r : RU} {v : FV} {R : FAW} (h : fitKU l w r = .ok v R) : fitsL l (toV w) = true ∧ r = .ok v R := by
  cases l with
  | str =>
    obtain ⟨s, rfl, h2⟩ := eS_inv (show eS w _ = .ok v R from h)
    obtain ⟨h3, h4⟩ := cn_inv h2
    rw [bleU, lenU_eq, decide_eq_true_eq] at h3
    refine ⟨?_, h4⟩
    simp only [toV, fitsL, maxLen, ba_lenU]
    exact decide_eq_true h3
  | bl =>
    obtain ⟨b, rfl, h2⟩ := eT_inv (show eT w _ = .ok v R from h)
    exact ⟨by simp only [toV, fitsL], h2⟩
  | int q =>
    have h0 : eNBS w (fun m => cn (an (Nat.beq (idKU q) 3) (Nat.ble m 9223372036854775807)) r .no) (fun m => cn (an (Nat.beq (idKU q) 4) (Nat.ble m 255)) r .no) (fun _ => .no) (cn (fitsL (.int q) (toV w)) r .no) = .ok v R := h
    clear h
    cases w <;> first
      | (exact cn_inv h0)
      | (cases h0; done)
      | skip
    · rename_i m
      obtain ⟨h1, h2⟩ := cn_inv (show cn _ r .no = .ok v R from h0)
      rw [an_eq, Bool.and_eq_true, bleU, decide_eq_true_eq] at h1
      refine ⟨?_, h2⟩
      have hq : q = .i64 := by
        have := h1.1
        cases q <;> first | rfl | (simp [idKU] at this)
      subst hq
      have h3 := h1.2
      simp only [toV, fitsL, decide_true, Bool.true_and]
      have e2 : (Int.ofNat m) = (m : Int) := rfl
      rw [e2]
      simp [Lit.wf, IntKind.min, IntKind.max, IntKind.signed, IntKind.bits]
      omega
    · rename_i m
      obtain ⟨h1, h2⟩ := cn_inv (show cn _ r .no = .ok v R from h0)
      rw [an_eq, Bool.and_eq_true, bleU, decide_eq_true_eq] at h1
      refine ⟨?_, h2⟩
      have hq : q = .u8 := by
        have := h1.1
        cases q <;> first | rfl | (simp [idKU] at this)
      subst hq
      have h3 := h1.2
      simp only [toV, fitsL, decide_true, Bool.true_and]
      have e2 : (Int.ofNat m) = (m : Int) := rfl
      rw [e2]
      simp [Lit.wf, IntKind.min, IntKind.max, IntKind.signed, IntKind.bits]
      omega
noncomputable def fitKsU (ls : List KL) (vs : List FV) (r : RU) : RU :=
  List.rec (motive := fun _ => List FV → RU) (fun vs => List.rec (motive := fun _ => RU) r (fun _ _ _ => .no) vs) (fun l _ ih vs => List.rec (motive := fun _ => RU) .no (fun w ws _ => fitKU l w (ih ws)) vs) ls vs
theorem fitKsU_inv : ∀ {ls : List KL} {vs : List FV} {r : RU} {v : FV} {R : FAW}, fitKsU ls vs r = .ok v R → fitsLs ls (toVs vs) = true ∧ vs.length = ls.length ∧ r = .ok v R
  | [], [], r, v, R, h => ⟨by simp [toVs, fitsLs], rfl, h⟩
  | [], _ :: _, r, v, R, h => by cases h
  | _ :: _, [], r, v, R, h => by cases h
  | l :: ls, w :: ws, r, v, R, h => by
    obtain ⟨h1, h2⟩ := fitKU_inv (show fitKU l w (fitKsU ls ws r) = .ok v R from h)
    obtain ⟨h3, h4, h5⟩ := fitKsU_inv h2
    exact ⟨by simp only [toVs, fitsLs, h1, h3, Bool.and_self], by simp [h4], h5⟩
noncomputable def fitSU (ks : KS) (v : FV) (r : RU) : RU := KS.rec (motive := fun _ => RU) (fun l => fitKU l v r) (fun ls => eA v fun cs => fitKsU ls cs r) ks
theorem fitSU_inv {ks : KS} {w : FV} {r : RU} {v : FV} {R : FAW} (h : fitSU ks w r = .ok v R) : fits ks (toV w) = true ∧ r = .ok v R := by
  cases ks with
  | one l => exact fitKU_inv h
  | agg ls =>
    obtain ⟨cs, rfl, h2⟩ := eA_inv (show eA w _ = .ok v R from h)
    obtain ⟨h3, h4, h5⟩ := fitKsU_inv h2
    refine ⟨?_, h5⟩
    simp only [toV, fits, h3, Bool.and_true, decide_eq_true_eq]
    simp [toVs_length, h4]
/-- Are two keys' leaves one? -/
noncomputable def sameLU (a b : FV) (y n : RU) : RU :=
  eNBS a (fun m => eNBS b (fun k => cn (Nat.beq m k) y n) (fun _ => n) (fun _ => n) (cn (keqL (toV a) (toV b)) y n)) (fun m => eNBS b (fun _ => n) (fun k => cn (Nat.beq m k) y n) (fun _ => n) (cn (keqL (toV a) (toV b)) y n))
    (fun s => eNBS b (fun _ => n) (fun _ => n) (fun t => cn (beqLU s t) y n) (cn (keqL (toV a) (toV b)) y n)) (cn (keqL (toV a) (toV b)) y n)
theorem sameLU_eq (a b : FV) (y n : RU) : sameLU a b y n = cn (keqL (toV a) (toV b)) y n := by
  cases a with
  | n m =>
    cases b with
    | n k =>
      show cn (Nat.beq m k) y n = _
      simp only [toV, keqL, ofN_eq, decide_true, Bool.true_and]
    | b k => simp only [toV, keqL]; rfl
    | _ => rfl
  | b m =>
    cases b with
    | n k => simp only [toV, keqL]; rfl
    | b k =>
      show cn (Nat.beq m k) y n = _
      simp only [toV, keqL, ofN_eq, decide_true, Bool.true_and]
    | _ => rfl
  | s l =>
    cases b with
    | s t =>
      show cn (beqLU l t) y n = _
      simp only [toV, keqL, str_eq]
    | _ => rfl
  | _ => rfl
noncomputable def sameLsU (x y : List FV) (a n : RU) : RU :=
  List.rec (motive := fun _ => List FV → RU) (fun y => List.rec (motive := fun _ => RU) a (fun _ _ _ => n) y) (fun w _ ih y => List.rec (motive := fun _ => RU) n (fun u r _ => sameLU w u (ih r) n) y) x y
theorem sameLsU_eq : ∀ (x y : List FV) (a n : RU), sameLsU x y a n = cn (keqLs (toVs x) (toVs y)) a n
  | [], [], a, n => rfl
  | [], _ :: _, a, n => rfl
  | _ :: _, [], a, n => rfl
  | w :: x, u :: y, a, n => by
    have : sameLsU (w :: x) (u :: y) a n = sameLU w u (sameLsU x y a n) n := rfl
    rw [this, sameLU_eq, sameLsU_eq x y]
    simp only [toVs, keqLs]
    cases keqL (toV w) (toV u) <;> rfl
noncomputable def sameSU (ks : KS) (a b : FV) (y n : RU) : RU :=
  KS.rec (motive := fun _ => RU) (fun _ => sameLU a b y n) (fun _ => eA a fun p => eA b fun q => sameLsU p q y n) ks
theorem sameSU_inv {ks : KS} {a b : FV} {y n : RU} {v : FV} {R : FAW} (h : sameSU ks a b y n = .ok v R) : cn (keq ks (toV a) (toV b)) y n = .ok v R := by
  cases ks with
  | one l => rw [show sameSU (.one l) a b y n = sameLU a b y n from rfl, sameLU_eq] at h; exact h
  | agg ls =>
    obtain ⟨p, rfl, h2⟩ := eA_inv (show eA a _ = .ok v R from h)
    obtain ⟨q, rfl, h3⟩ := eA_inv h2
    rw [sameLsU_eq] at h3
    simp only [toV, keq]
    exact h3
noncomputable def scanU (ks : KS) (k : FV) (es : List (FV × FV)) : Nat → Option Nat → (Option Nat → RU) → RU :=
  List.rec (motive := fun _ => Nat → Option Nat → (Option Nat → RU) → RU) (fun _ acc f => f acc)
    (fun p _ ih n acc f => fitSU ks p.1 (sameSU ks k p.1 (Option.rec (motive := fun _ => RU) (ih (Nat.succ n) (some n) f) (fun _ => .no) acc) (ih (Nat.succ n) acc f))) es
theorem scanU_inv {ks : KS} {k : FV} : ∀ {es : List (FV × FV)} {n : Nat} {acc : Option Nat} {f : Option Nat → RU} {v : FV} {R : FAW}, scanU ks k es n acc f = .ok v R →
    ((toEs es).all fun e => fits ks e.1) = true ∧ ∃ o, f o = .ok v R ∧ acc.toList ++ mixs ks (toV k) (toEs es) n = o.toList
  | [], n, acc, f, v, R, h => ⟨rfl, acc, h, by simp [toEs, mixs]⟩
  | (a, b) :: es, n, acc, f, v, R, h => by
    obtain ⟨h1, h2⟩ := fitSU_inv (show fitSU ks a (sameSU ks k a (Option.rec (motive := fun _ => RU) (scanU ks k es (Nat.succ n) (some n) f) (fun _ => .no) acc) (scanU ks k es (Nat.succ n) acc f)) = .ok v R from h)
    have h3 := sameSU_inv h2
    cases e2 : keq ks (toV k) (toV a) with
    | false =>
      rw [e2, cn_false] at h3
      obtain ⟨q1, o, q2, q3⟩ := scanU_inv h3
      refine ⟨by simp only [toEs, List.map_cons, List.all_cons, h1]; exact q1, o, q2, ?_⟩
      simp only [toEs, List.map_cons, mixs]
      rw [if_neg (by simp [e2])]; exact q3
    | true =>
      rw [e2, cn_true] at h3
      cases acc with
      | some j => cases h3
      | none =>
        obtain ⟨q1, o, q2, q3⟩ := scanU_inv (show scanU ks k es (n + 1) (some n) f = .ok v R from h3)
        refine ⟨by simp only [toEs, List.map_cons, List.all_cons, h1]; exact q1, o, q2, ?_⟩
        simp only [toEs, List.map_cons, mixs]
        rw [if_pos e2]; exact q3
noncomputable def mfU (ks : KS) (k : FV) (es : List (FV × FV)) (f : Option Nat → RU) : RU := fitSU ks k (scanU ks k es 0 none f)
theorem mfU_inv {ks : KS} {k : FV} {es : List (FV × FV)} {f : Option Nat → RU} {v : FV} {R : FAW} (h : mfU ks k es f = .ok v R) : ∃ o, mfind ks (toV k) (toEs es) = some o ∧ f o = .ok v R := by
  obtain ⟨h1, h2⟩ := fitSU_inv h
  obtain ⟨h3, o, h4, h5⟩ := scanU_inv h2
  refine ⟨o, ?_, h4⟩
  have h5 : mixs ks (toV k) (toEs es) 0 = o.toList := by simpa using h5
  unfold mfind
  rw [h1, h3, h5]
  cases o <;> rfl

section
variable {C : Callee} {S : AW} {F R : FAW} {f : KU} {v : FV}
variable {ρ : Operand → Value} {e : Operand → FV} (he : ∀ o, ρ o = toV (e o))
include he
noncomputable def outU (ok : Bool) (w : FV) (b : Bool) (F : FAW) (f : KU) : RU := cn ok (f (.u [w, .t b]) F) (f w F)
omit he in
theorem outU_inv (h : UR F S) {ok : Bool} {w : FV} {b : Bool} {o : Option Value} (ho : o = some (lookOut ok (toV w) b)) (hf : outU ok w b F f = .ok v R) : Does C S (rV S o) f v R := by
  cases ok with
  | true => exact does_rV h (w := .u [w, .t b]) (by rw [ho]; simp only [lookOut, toV, toVs, if_true]) hf
  | false => exact does_rV h (w := w) (by rw [ho]; simp [lookOut]) hf
noncomputable def uMlk (ks : KS) (z : Value) (ok : Bool) (x k : FV) (F : FAW) (f : KU) : RU :=
  eL x (fun _ _ _ _ => .no) .no (fun _ => .no) (fun i => findM F.h i fun es => mfU ks k es fun o => Option.rec (motive := fun _ => RU) (outU ok (ofV z) false F f) (fun j => nthU es j fun p => outU ok p.2 true F f) o) (fitSU ks k (outU ok (ofV z) false F f))
theorem uMlk_inv (h : UR F S) {ks : KS} {z : Value} {ok : Bool} {a b : Operand} (hf : uMlk ks z ok (e a) (e b) F f = .ok v R) : Does C S (rMlk ρ S ks z ok a b) f v R := by
  unfold rMlk
  rw [he, he]
  generalize e a = p at hf ⊢
  cases p <;> first
    | (cases hf; done)
    | skip
  · rename_i i
    obtain ⟨es, h1, h2⟩ := findM_inv h.h (show findM F.h i _ = .ok v R from hf)
    obtain ⟨o, h3, h4⟩ := mfU_inv h2
    cases o with
    | none => exact outU_inv h (by simp only [toV, mlkV, h1, h3, toV_ofV]) h4
    | some j =>
      obtain ⟨q, h5, h6⟩ := nthU_inv (show nthU es j _ = .ok v R from h4)
      have e1 : (toEs es)[j]? = some (toV q.1, toV q.2) := by simp only [toEs, List.getElem?_map, h5, Option.map_some]
      exact outU_inv h (by simp only [toV, mlkV, h1, h3, e1]) h6
  · obtain ⟨h1, h2⟩ := fitSU_inv (show fitSU ks (e b) _ = .ok v R from hf)
    refine outU_inv h ?_ h2
    have : mfind ks (toV (e b)) [] = some none := by simp [mfind, h1, mixs]
    simp only [toV, mlkV, this, toV_ofV]
noncomputable def setU {α : Type} (l : List α) (v : α) : Nat → (List α → RU) → RU :=
  List.rec (motive := fun _ => Nat → (List α → RU) → RU) (fun _ f => f []) (fun a l ih n f => Nat.rec (motive := fun _ => RU) (f (v :: l)) (fun m _ => ih m fun r => f (a :: r)) n) l
omit he in
theorem setU_eq {α : Type} (w : α) : ∀ (l : List α) (n : Nat) (f : List α → RU), setU l w n f = f (l.set n w)
  | [], n, f => rfl
  | a :: l, 0, f => rfl
  | a :: l, n + 1, f => by
    have : setU (a :: l) w (n + 1) f = setU l w n fun r => f (a :: r) := rfl
    rw [this, setU_eq w l n]; rfl
noncomputable def putMU (F : FAW) (i : Nat) (es : List (FV × FV)) (f : FAW → RU) : RU := setM i es F.h fun h => f ⟨h, F.fs, F.x⟩
omit he in
theorem obj_putMap (S : AW) (i : Nat) (es : List (Value × Value)) (b : List Nat × Nat) (j : Nat) : (S.putMap i es b).obj j = if j = i then some (.map es) else S.obj j := by
  unfold AW.putMap AW.obj
  exact look_lput _ _ _ _
omit he in
theorem putMU_inv (h : UR F S) {i : Nat} {es0 : List (Value × Value)} {es : List (FV × FV)} {g : FAW → RU} (b : List Nat × Nat) (hm : S.mapv i = some es0) (hf : putMU F i es g = .ok v R) : ∃ F', UR F' (S.putMap i (toEs es) b) ∧ g F' = .ok v R := by
  have hfam : ∀ j, (S.putMap i (toEs es) b).fam j = S.fam j := fun j => rfl
  obtain ⟨l', a1, _, a3⟩ := setM_inv (S := S) (S' := S.putMap i (toEs es) b) rfl (AW.mapv_of (by rw [obj_putMap, if_pos rfl])) (fun j c e s m o hj hr => by
      obtain ⟨g', hr⟩ := hr.raw
      obtain ⟨q1, q2⟩ := AW.raw_some hr
      exact ⟨_, AW.raw_of (by rw [obj_putMap, if_neg hj]; exact q1) q2, rfl, rfl, rfl, rfl, rfl⟩)
    (fun j es' hj hm' => AW.mapv_of (by rw [obj_putMap, if_neg hj]; exact AW.mapv_some hm'))
    (fun c e s m o hr => by
      obtain ⟨g', hr⟩ := hr.raw
      exact raw_no_map hr _ hm) h.h hf
  exact ⟨⟨l', F.fs, F.x⟩, ⟨h.next, a1, FOk.mono (S := S) (S' := S.putMap i (toEs es) b) (Nat.le_refl _) h.f fun j m e hq _ => hq⟩, a3⟩
noncomputable def uMup (ks : KS) (x k w : FV) (F : FAW) (f : KU) : RU :=
  eL x (fun _ _ _ _ => .no) .no (fun _ => .no) (fun i => findM F.h i fun es => mfU ks k es fun o => Option.rec (motive := fun _ => RU) (catU es [(k, w)] fun es => putMU F i es fun F' => f (.u []) F') (fun j => setU es (k, w) j fun es => putMU F i es fun F' => f (.u []) F') o) .no
theorem uMup_inv (h : UR F S) {ks : KS} {a b c : Operand} (hf : uMup ks (e a) (e b) (e c) F f = .ok v R) : Does C S (rMup ρ S ks a b c) f v R := by
  unfold rMup
  rw [he, he, he]
  generalize e a = p at hf ⊢
  cases p <;> first
    | (cases hf; done)
    | skip
  rename_i i
  obtain ⟨es, h1, h2⟩ := findM_inv h.h (show findM F.h i _ = .ok v R from hf)
  obtain ⟨o, h3, h4⟩ := mfU_inv h2
  cases o with
  | none =>
    have h4 : (catU es [(e b, e c)] fun es => putMU F i es fun F' => f (.u []) F') = .ok v R := h4
    rw [catU_eq] at h4
    obtain ⟨F', h5, h6⟩ := putMU_inv h _ h1 h4
    have e1 : toEs es ++ [(toV (e b), toV (e c))] = toEs (es ++ [(e b, e c)]) := by simp only [toEs, List.map_append, List.map_cons, List.map_nil]
    simp only [toV, mupV, h1, h3, e1]
    exact ⟨.u [], F', _, by simp only [goU, toV, toVs]; rfl, h5, h6⟩
  | some j =>
    have h4 : (setU es (e b, e c) j fun es => putMU F i es fun F' => f (.u []) F') = .ok v R := h4
    rw [setU_eq] at h4
    obtain ⟨F', h5, h6⟩ := putMU_inv h _ h1 h4
    have e1 : (toEs es).set j (toV (e b), toV (e c)) = toEs (es.set j (e b, e c)) := by simp only [toEs, List.map_set]
    simp only [toV, mupV, h1, h3, e1]
    exact ⟨.u [], F', _, by simp only [goU, toV, toVs]; rfl, h5, h6⟩
noncomputable def uMkm (r : Option FV) (F : FAW) (f : KU) : RU := optU r 0 fun _ => fN F.x fun x => f (.m x) ⟨.map x [] F.h, F.fs, Nat.succ x⟩
theorem uMkm_inv (h : UR F S) {r : Option Operand} (hf : uMkm (r.map e) F f = .ok v R) : Does C S (rMkm ρ S r) f v R := by
  obtain ⟨j, h1, m, _, h2, _⟩ := optU_inv hf
  rw [fN_eq] at h2
  unfold rMkm
  rw [opt_eq he, h1]
  have hobj : ∀ j, S.newMap.obj j = if j = S.next then some (.map []) else S.obj j := fun j => rfl
  have hn := h.next
  refine ⟨.m S.next, ⟨.map F.x [] F.h, F.fs, Nat.succ F.x⟩, S.newMap, by simp only [goU, toV], ⟨by show F.x + 1 = S.next + 1; omega, ⟨?_, by show F.x < S.next + 1; omega, h.h.fresh (by omega), h.h.mono (Nat.le_succ _) (fun i c e s m o hr hi => ?_) fun i es hm hi => ?_⟩, h.f.mono (Nat.le_succ _) fun i m e hq _ => hq⟩, by rw [← hn]; exact h2⟩
  · rw [hn]; exact AW.mapv_of (by rw [hobj, if_pos rfl]; rfl)
  · obtain ⟨g', hr⟩ := hr.raw
    obtain ⟨q1, q2⟩ := AW.raw_some hr
    exact ⟨_, AW.raw_of (by rw [hobj, if_neg (by omega)]; exact q1) q2, rfl, rfl, rfl, rfl, rfl⟩
  · exact AW.mapv_of (by rw [hobj, if_neg (by omega)]; exact AW.mapv_some hm)
noncomputable def uLenM (x : FV) (F : FAW) (f : KU) : RU := eL x (fun _ _ _ _ => .no) .no (fun _ => .no) (fun i => findM F.h i fun es => fN (lenU es) fun n => f (.n n) F) (f (.n 0) F)
theorem uLenM_inv (h : UR F S) {a : Operand} (hf : uLenM (e a) F f = .ok v R) : Does C S (rLenM ρ S a) f v R := by
  unfold rLenM
  rw [he]
  generalize e a = p at hf ⊢
  cases p <;> first
    | (cases hf; done)
    | skip
  · rename_i i
    obtain ⟨es, h1, h2⟩ := findM_inv h.h (show findM F.h i _ = .ok v R from hf)
    rw [fN_eq, lenU_eq] at h2
    exact does_rV h (w := .n es.length) (by simp only [toV, lenMV, h1, toEs, List.length_map]; rfl) h2
  · exact does_rV h (w := .n 0) (by simp only [toV, lenMV]; rfl) hf
noncomputable def uMkf (g : FuncId) (a c : List FV) (F : FAW) (f : KU) : RU := f (.f g a c) F
theorem list_eq (l : List Operand) : l.map ρ = toVs (l.map e) := by
  rw [toVs_map, List.map_map]
  exact List.map_congr_left fun x _ => he x
theorem uMkf_inv (h : UR F S) {g : FuncId} {a c : List Operand} (hf : uMkf g (a.map e) (c.map e) F f = .ok v R) : Does C S (rMkf ρ S g a c) f v R := by
  unfold rMkf
  rw [list_eq he, list_eq he]
  exact does_val h (w := .f g (a.map e) (c.map e)) (by simp only [toV]) hf

-- calls
/-- What a callee of ours says, the elder one says. -/
def CallR (U : CU) (C : Callee) : Prop := ∀ g args F S v R, UR F S → U g args F = .ok v R → ∃ S', C g (toVs args) S = some (toV v, S') ∧ UR R S'
noncomputable def goOn (r : RU) (f : KU) : RU := RU.rec (motive := fun _ => RU) .no (fun v S => FAW.rec (motive := fun _ => RU) (fun h fs x => f v ⟨h, fs, x⟩) S) r
noncomputable def uCall (U : CU) (g : FuncId) (args : List FV) (F : FAW) (f : KU) : RU := goOn (U g args F) f
omit he in
theorem uCall_inv (h : UR F S) {U : CU} (hU : CallR U C) {g : FuncId} {args : List FV} (hf : uCall U g args F f = .ok v R) : Does C S (some (.call g (toVs args))) f v R := by
  unfold uCall at hf
  cases hr : U g args F with
  | no => rw [hr] at hf; cases hf
  | ok w F' =>
    rw [hr] at hf
    obtain ⟨hp, fs, x⟩ := F'
    obtain ⟨S', h1, h2⟩ := hU g args F S w _ h hr
    exact ⟨w, ⟨hp, fs, x⟩, S', h1, h2, hf⟩
noncomputable def uCallV (U : CU) (g : FV) (args : List FV) (F : FAW) (f : KU) : RU :=
  FV.rec (motive_1 := fun _ => RU) (motive_2 := fun _ => Unit) (fun _ => .no) (fun _ => .no) (fun _ _ => .no) (fun _ => .no) (fun _ => .no) (fun _ _ => .no) (fun _ _ _ _ => .no) (fun _ => .no) .no .no .no .no (fun g a c _ _ => catU args c fun r => catU a r fun l => uCall U g l F f) (fun _ _ => .no) (fun _ _ => .no) .no (fun _ => .no) () (fun _ _ _ _ => ()) g
theorem uCallV_inv (h : UR F S) {U : CU} (hU : CallR U C) {g : Operand} {args : List Operand} (hf : uCallV U (e g) (args.map e) F f = .ok v R) : Does C S (rCallV ρ S g args) f v R := by
  unfold rCallV
  rw [he, list_eq he]
  generalize e g = p at hf ⊢
  cases p <;> first
    | (cases hf; done)
    | skip
  rename_i g a c
  have hf : (catU (args.map e) c fun r => catU a r fun l => uCall U g l F f) = .ok v R := hf
  rw [catU_eq, catU_eq] at hf
  have := uCall_inv h hU hf
  simp only [toV, List.append_assoc]
  simpa only [toVs_append] using this
omit he in
theorem eraseIdx_toEs : ∀ (es : List (FV × FV)) (j : Nat), (toEs es).eraseIdx j = toEs (es.eraseIdx j)
  | [], _ => rfl
  | _ :: _, 0 => rfl
  | a :: es, j + 1 => by
    have := eraseIdx_toEs es j
    simp only [toEs, List.map_cons, List.eraseIdx_cons_succ] at this ⊢
    rw [this]
/-- An entry is taken out of a map. -/
noncomputable def uMdel (ks : KS) (x k : FV) (F : FAW) (f : KU) : RU :=
  eL x (fun _ _ _ _ => .no) .no (fun _ => .no) (fun i => findM F.h i fun es => mfU ks k es fun o => Option.rec (motive := fun _ => RU) (putMU F i es fun F' => f (.u []) F') (fun j => putMU F i (es.eraseIdx j) fun F' => f (.u []) F') o) .no
theorem uMdel_inv (h : UR F S) {ks : KS} {a b : Operand} (hf : uMdel ks (e a) (e b) F f = .ok v R) : Does C S (rMdel ρ S ks a b) f v R := by
  unfold rMdel
  rw [he, he]
  generalize e a = p at hf ⊢
  cases p <;> first
    | (cases hf; done)
    | skip
  rename_i i
  obtain ⟨es, h1, h2⟩ := findM_inv h.h (show findM F.h i _ = .ok v R from hf)
  obtain ⟨o, h3, h4⟩ := mfU_inv h2
  cases o with
  | none =>
    have h4 : (putMU F i es fun F' => f (.u []) F') = .ok v R := h4
    obtain ⟨F', h5, h6⟩ := putMU_inv h _ h1 h4
    simp only [toV, mdelV, h1, h3]
    exact ⟨.u [], F', _, by simp only [goU, toV, toVs]; rfl, h5, h6⟩
  | some j =>
    have h4 : (putMU F i (es.eraseIdx j) fun F' => f (.u []) F') = .ok v R := h4
    obtain ⟨F', h5, h6⟩ := putMU_inv h _ h1 h4
    have e1 : (toEs es).eraseIdx j = toEs (es.eraseIdx j) := eraseIdx_toEs es j
    simp only [toV, mdelV, h1, h3, e1]
    exact ⟨.u [], F', _, by simp only [goU, toV, toVs]; rfl, h5, h6⟩
/-- What is copied at most. -/
noncomputable def cutK (k : Nat) (x : FV) (g : FV → RU) : RU :=
  eL x (fun i o n c => Bool.rec (motive := fun _ => RU) (g (.l i o k c)) (g (.l i o n c)) (Nat.ble n k)) (g .nl) (fun s => cn (Nat.ble (lenU s) k) (g (.s s)) .no) (fun _ => .no) .no
noncomputable def cpyK (i o : Nat) (F : FAW) (n : Nat) (nw : List FV) (f : KU) : RU :=
  List.rec (motive := fun _ => RU) (f (.n n) F) (fun _ _ _ => findH F.h i fun c _ _ fm ro => cn ro .no (stAtU c o nw fun d => putU F i fm d fun F' => f (.n n) F')) nw
noncomputable def uCpy (size : Nat) (d s : FV) (F : FAW) (f : KU) : RU :=
  eL d (fun i o dl _ => cutK dl s fun x => srcU F size x fun n nw => cpyK i o F n nw f) (cutK 0 s fun x => srcU F size x fun n nw => List.rec (motive := fun _ => RU) (f (.n n) F) (fun _ _ _ => .no) nw) (fun _ => .no) (fun _ => .no) .no
omit he in
theorem cutK_inv {k : Nat} {x : FV} {g : FV → RU} (hf : cutK k x g = .ok v R) : ∃ y, cutS k (toV x) = some (toV y) ∧ g y = .ok v R := by
  cases x <;> first
    | (cases hf; done)
    | skip
  · rename_i s
    obtain ⟨h1, h2⟩ := cn_inv (show cn (Nat.ble (lenU s) k) (g (.s s)) .no = .ok v R from hf)
    rw [bleU, lenU_eq, decide_eq_true_eq] at h1
    exact ⟨.s s, by simp only [toV, cutS, ba_lenU, if_pos h1], h2⟩
  · rename_i i o n c
    have hf : (Bool.rec (motive := fun _ => RU) (g (.l i o k c)) (g (.l i o n c)) (Nat.ble n k)) = .ok v R := hf
    rw [bleU] at hf
    by_cases h : n ≤ k
    · simp only [h, decide_true] at hf
      exact ⟨.l i o n c, by simp only [toV, cutS, Nat.min_eq_left h], hf⟩
    · simp only [h, decide_false] at hf
      exact ⟨.l i o k c, by simp only [toV, cutS, Nat.min_eq_right (Nat.le_of_not_le h)], hf⟩
  · exact ⟨.nl, by simp only [toV, cutS, Nat.zero_min], hf⟩
theorem uCpy_inv (h : UR F S) {size : Nat} {a b : Operand} (hf : uCpy size (e a) (e b) F f = .ok v R) : Does C S (rCpy ρ S size a b) f v R := by
  unfold rCpy
  rw [he, he]
  generalize e a = d at hf ⊢
  cases d <;> first
    | (cases hf; done)
    | skip
  · rename_i i o dl c
    obtain ⟨x, h1, h2⟩ := cutK_inv (show cutK dl (e b) (fun x => srcU F size x fun n nw => cpyK i o F n nw f) = .ok v R from hf)
    obtain ⟨n, nw, h3, h4, h5⟩ := srcU_inv h h2
    simp only [toV, cpyV, h1, h3]
    cases nw with
    | nil =>
      simp only [toVs, if_true]
      exact ⟨.n n, F, S, by simp only [goU, toV]; rfl, h, h5⟩
    | cons w ws =>
      have h5 : (findH F.h i fun c _ _ fm ro => cn ro .no (stAtU c o (w :: ws) fun d => putU F i fm d fun F' => f (.n n) F')) = .ok v R := h5
      obtain ⟨cc, el, es, fm, ro, hr, h6⟩ := findH_inv h.h h5
      obtain ⟨g, hr⟩ := hr.raw
      obtain ⟨h7, h8⟩ := cn_no h6
      obtain ⟨h9, h10, h11, h12⟩ := stAtU_inv h8
      obtain ⟨F', h13, h14⟩ := putU_inv h hr h12
      have hne : ¬ toVs (w :: ws) = [] := by simp [toVs]
      simp only [if_neg hne, hr]
      rw [if_pos (by rw [toVs_length]; simp only [h7, h10, h11, Bool.not_false, Bool.and_self])]
      have e1 : (toVs cc).take o ++ toVs (w :: ws) ++ (toVs cc).drop (o + (toVs (w :: ws)).length) = toVs (cc.take o ++ (w :: ws) ++ cc.drop (o + (w :: ws).length)) := by
        rw [toVs_length]; simp only [toVs_map, List.map_append, List.map_take, List.map_drop]
      rw [e1]
      exact ⟨.n n, F', _, by simp only [goU, toV]; rfl, h13, h14⟩
  · obtain ⟨x, h1, h2⟩ := cutK_inv (show cutK 0 (e b) (fun x => srcU F size x fun n nw => List.rec (motive := fun _ => RU) (f (.n n) F) (fun _ _ _ => .no) nw) = .ok v R from hf)
    obtain ⟨n, nw, h3, h4, h5⟩ := srcU_inv h h2
    simp only [toV, cpyV, h1, h3]
    cases nw with
    | nil =>
      simp only [toVs, if_true]
      exact ⟨.n n, F, S, by simp only [goU, toV]; rfl, h, h5⟩
    | cons w ws => cases h5
noncomputable def uMM (mx : Bool) (xs : List FV) (F : FAW) (f : KU) : RU := uO (mmV mx (toVs xs)) F f
end

/-- An operation in the plain form. -/
noncomputable def opU (U : CU) (e : EOp) (ρ : Operand → FV) (F : FAW) (f : KU) : RU :=
  match e with
  | .mov x => f (ρ x) F
  | .con x => f (ofV x) F
  | .pick c a b => uPick (ρ c) (ρ a) (ρ b) F f
  | .bin op x y => uBin op (ρ x) (ρ y) F f
  | .eqB neg x y => uEqB neg (ρ x) (ρ y) F f
  | .eqN kind neg x y => uEqN kind neg (ρ x) (ρ y) F f
  | .eqA neg n x y => uEqA neg n (ρ x) (ρ y) F f
  | .un op x => uUn op (ρ x) F f
  | .cvI k x => uCvI k (ρ x) F f
  | .cvS x => uCvS (ρ x) F f
  | .fld sz off x => uFld sz off (ρ x) F f
  | .ext i x => uExt i (ρ x) F f
  | .build zero ps => uBuild zero (ps.map fun p => (p.1, p.2.1, ρ p.2.2)) F f
  | .fad off x => uFad off (ρ x) F f
  | .iad size x ix => uIad size (ρ x) (ρ ix) F f
  | .iadA ln size x ix => uIadA ln size (ρ x) (ρ ix) F f
  | .idxS x ix => uIdxS (ρ x) (ρ ix) F f
  | .idxA ln size ag x ix => uIdxA ln size ag (ρ x) (ρ ix) F f
  | .slS x lo hi => uSlS (ρ x) (lo.map ρ) (hi.map ρ) F f
  | .slV size x lo hi mm => uSlV size (ρ x) (lo.map ρ) (hi.map ρ) (mm.map ρ) F f
  | .nilc x => uNilc (ρ x) F f
  | .mkf g fs cs => uMkf g (fs.map ρ) (cs.map ρ) F f
  | .len str x => uLen str (ρ x) F f
  | .mx xs => uMM true (xs.map ρ) F f
  | .mn xs => uMM false (xs.map ρ) F f
  | .ld sz x => uLd sz (ρ x) F f
  | .cvBS x => uCvBS (ρ x) F f
  | .st size x y => uSt size (ρ x) (ρ y) F f
  | .cpy size x y => uCpy size (ρ x) (ρ y) F f
  | .mkm r => uMkm (r.map ρ) F f
  | .mlk ks z ok x k => uMlk ks z ok (ρ x) (ρ k) F f
  | .mup ks x k y => uMup ks (ρ x) (ρ k) (ρ y) F f
  | .mdel ks x k => uMdel ks (ρ x) (ρ k) F f
  | .lenM x => uLenM (ρ x) F f
  | .capn x => uCapn (ρ x) F f
  | .mark x => uMark (ρ x) F f
  | .box elem es x => uBox elem es (ρ x) F f
  | .new elem es cells => uNew elem es cells F f
  | .lit elem size zero n ps => uLit elem size zero n (ps.map fun p => (p.1, p.2.1, ρ p.2.2)) F f
  | .mks elem size bytes zero l c => uMks elem size bytes zero (ρ l) (ρ c) F f
  | .cvSB elem x => uCvSB elem (ρ x) F f
  | .app elem size bytes s x => uApp elem size bytes (ρ s) (ρ x) F f
  | .appz elem size bytes zero s x => uAppz elem size bytes zero (ρ s) (ρ x) F f
  | .call g args => uCall U g (args.map ρ) F f
  | .callV g args => uCallV U (ρ g) (args.map ρ) F f
  | .bx g args => uCall U g (args.map ρ) F f
  | _ => .no
theorem opU_inv {U : CU} {C : Callee} (hU : CallR U C) {S : AW} {F R : FAW} (h : UR F S) {f : KU} {v : FV} {ρ : Operand → Value} {e : Operand → FV} (he : ∀ o, ρ o = toV (e o)) {op : EOp} (hf : opU U op e F f = .ok v R) : Does C S (op.runR ρ S) f v R := by
  cases op <;> simp only [opU] at hf <;> try (cases hf; done)
  all_goals simp only [EOp.runR]
  case mov => exact uMov_inv he h hf
  case con => exact does_val h (toV_ofV _) hf
  case pick => exact uPick_inv he h hf
  case bin => exact uBinR_inv he h hf
  case eqB => exact uEqB_inv he h hf
  case eqN => exact uEqN_inv he h hf
  case eqA => exact uEqA_inv he h hf
  case un => exact uUn_inv he h hf
  case cvI => exact uCvI_inv he h hf
  case cvS => exact uCvS_inv he h hf
  case fld => exact uFld_inv he h hf
  case ext => exact uExt_inv he h hf
  case build => exact uBuild_inv he h hf
  case fad => exact uFad_inv he h hf
  case iad => exact uIad_inv he h hf
  case iadA => exact uIadA_inv he h hf
  case idxS => exact uIdxS_inv he h hf
  case idxA => exact uIdxA_inv he h hf
  case slS => exact uSlS_inv he h hf
  case slV => exact uSlV_inv he h hf
  case nilc => exact uNilc_inv he h hf
  case mkf => exact uMkf_inv he h hf
  case len => exact uLen_inv he h hf
  case mx xs => unfold rMx; rw [list_eq he]; exact uO_inv h hf
  case mn xs => unfold rMn; rw [list_eq he]; exact uO_inv h hf
  case ld => exact uLd_inv he h hf
  case cvBS => exact uCvBS_inv he h hf
  case st => exact uSt_inv he h hf
  case cpy => exact uCpy_inv he h hf
  case mkm => exact uMkm_inv he h hf
  case mlk => exact uMlk_inv he h hf
  case mup => exact uMup_inv he h hf
  case mdel => exact uMdel_inv he h hf
  case lenM => exact uLenM_inv he h hf
  case capn => exact uCapn_inv he h hf
  case mark => exact uMark_inv he h hf
  case box => exact uBox_inv he h hf
  case new => exact uNew_inv h hf
  case lit => exact uLit_inv he h hf
  case mks => exact uMks_inv he h hf
  case cvSB => exact uCvSB_inv he h hf
  case app => exact uApp_inv he h hf
  case appz => exact uAppz_inv he h hf
  case call => unfold rCall; rw [list_eq he]; exact uCall_inv h hU hf
  case callV => exact uCallV_inv he h hU hf
  case bx => unfold rBx; rw [list_eq he]; exact uCall_inv h hU hf
end Go.Proofs.Ythclmjelknibhaa.Ev
