/- Append, maps, calls; all operations together. -/
import Derived.Test.YtbngpadibllogaaGreatDoorEvG3
namespace Go.Proofs.YtbngpadibllogaaGreatDoor.Ev
open Go Go.RowKit
set_option linter.unusedVariables false
set_option linter.unusedSimpArgs false
set_option linter.unusedSectionVars false

def allOk : List Value → Bool
  | [] => true
  | v :: l => cond (cellOk v) (allOk l) false
theorem allOk_eq : ∀ l : List Value, allOk l = l.all cellOk
  | [] => rfl
  | v :: l => by
    rw [allOk, allOk_eq l, List.all_cons]
    cases cellOk v <;> rfl
def srcC (S : AW) (size : Nat) (x : Value) (f : Nat → List Value → R) : R :=
  match x with
  | .slice none _ _ => f 0 []
  | .slice (some ⟨i, o, none⟩) n _ => cond (Nat.beq (Nat.mul n size) 0) (f n []) (rawC S i fun r => rowAt r.c o (Nat.mul n size) fun m => f n m)
  | .string s => cond (Nat.beq size 1) (frcN (lenL s.data.toList) fun n => strC s.data.toList fun m => f n m) none
  | _ => none
theorem srcC_inv {S : AW} {size : Nat} {x : Value} {f : Nat → List Value → R} {y : Value × AW} (h : srcC S size x f = some y) : ∃ n nw, srcCells S size x = some (n, nw) ∧ f n nw = some y := by
  unfold srcC at h
  split at h
  · exact ⟨_, _, rfl, h⟩
  · rename_i i o n c
    rw [beqN_eq] at h
    have hm : Nat.mul n size = n * size := rfl
    rw [hm] at h
    by_cases e : n * size = 0
    · simp only [e, decide_true, cond_true] at h
      exact ⟨n, [], by simp only [srcCells, if_pos e], h⟩
    · simp only [e, decide_false, cond_false] at h
      obtain ⟨r, h1, h2⟩ := rawC_inv h
      obtain ⟨m, h3, _, h4⟩ := rowAt_inv h2
      exact ⟨n, m, by simp only [srcCells, if_neg e, AW.row, h1, h3]; rfl, h4⟩
  · rename_i s
    rw [beqN_eq] at h
    by_cases e : size = 1
    · simp only [e, decide_true, cond_true, frcN_eq, lenL_eq, strC_eq] at h
      exact ⟨_, _, by simp only [srcCells, if_pos e, ba_len s, strCells], h⟩
    · simp only [e, decide_false, cond_false] at h
      cases h
  · cases h
/-- Unknown cells ahead of a row. -/
def padC : Nat → List Value → List Value
  | 0, l => l
  | n + 1, l => bad :: padC n l
theorem padC_eq : ∀ (n : Nat) (l : List Value), padC n l = List.replicate n bad ++ l
  | 0, l => rfl
  | n + 1, l => by rw [padC, padC_eq n l]; rfl
def growF (S : AW) (r : Raw) (c : List Value) (n gen : Nat) (m : Fam) (f : Nat → AW → R) : R :=
  lputC S.fams r.fam m fun fs => frcN S.next fun x => f x ⟨(x, .cells ⟨c, r.elem, r.es, r.fam, gen, r.ro⟩) :: S.heap, fs, Nat.succ x⟩
def growM (S : AW) (r : Raw) (e : Nat) (c : List Value) (n : Nat) (m : Fam) (f : Nat → AW → R) : R :=
  cond (Nat.blt e m.ext) (frcN (Nat.succ m.g) fun g => growF S r c n g ⟨false, g, n⟩ f) (growF S r c n r.gen ⟨true, m.g, n⟩ f)
def growC (S : AW) (r : Raw) (off n : Nat) (m nw : List Value) (f : Nat → AW → R) : R :=
  catC m nw fun c => frcN (lenL (padC off c)) fun k => famC S r.fam fun fm => growM S r (Nat.add off n) (padC off c) k fm f
theorem growC_eq (S : AW) (r : Raw) (off n : Nat) (nw : List Value) (f : Nat → AW → R) : growC S r off n ((r.c.drop off).take n) nw f = f S.next (S.grow r off n nw) := by
  unfold growC
  rw [catC_eq, frcN_eq, famC_eq, lenL_eq, padC_eq]
  have hc : List.replicate off bad ++ ((r.c.drop off).take n ++ nw) = (r.grown S off n nw).c := by simp [Raw.grown]
  rw [hc]
  unfold growM
  rw [blt_eq]
  have ha : Nat.add off n = off + n := rfl
  rw [ha]
  by_cases e : off + n < (S.fam r.fam).ext
  · simp only [e, decide_true, cond_true, frcN_eq, growF, lputC_eq]
    unfold AW.grow
    simp only [e, if_true]
    unfold Raw.grown
    simp only [e, if_true]
  · simp only [e, decide_false, cond_false, frcN_eq, growF, lputC_eq]
    unfold AW.grow
    simp only [e, if_false]
    unfold Raw.grown
    simp only [e, if_false]
def fitB (n bytes : Nat) : Bool := and (Nat.ble (Nat.mul (Nat.add (Nat.mul 2 n) 192) bytes) 281474976710656) (Nat.ble n 140737488355328)
theorem fitB_inv {n bytes : Nat} (h : fitB n bytes = true) : (2 * n + 192) * bytes ≤ 281474976710656 ∧ n ≤ 140737488355328 := by
  simp only [fitB, Bool.and_eq_true, Nat.ble_eq] at h
  exact h
def appIn (size o l n : Nat) (nw : List Value) (S : AW) (i c : Nat) (f : KF) (r : Raw) : R :=
  cond (Nat.beq (lenL nw) (Nat.mul n size)) (stAt (Nat.add o (Nat.mul l size)) r.c nw fun d => putC S i r d fun S' => frcN (Nat.add l n) fun m => f (.slice (some ⟨i, o, none⟩) m c) S') none
def appGr (size bytes o l n : Nat) (nw : List Value) (S : AW) (f : KF) (r : Raw) : R :=
  frcN (Nat.mul l size) fun k => rowAt r.c o k fun m => cond (and (fitB (Nat.add l n) bytes) (or (not (Nat.beq k 0)) (Nat.ble o (lenL r.c)))) (growC S r o k m nw fun x S' => frcN (Nat.add l n) fun n => f (.slice (some ⟨x, o, none⟩) n n) S') none
def appR (elem size bytes i o l c n : Nat) (nw : List Value) (S : AW) (f : KF) (r : Raw) : R :=
  cond (and (not r.ro) (and (Nat.beq r.es size) (Nat.beq r.elem elem))) (cond (Nat.ble (Nat.add l n) c) (appIn size o l n nw S i c f r) (appGr size bytes o l n nw S f r)) none
def appS (elem size bytes i o l c n : Nat) (nw : List Value) (S : AW) (f : KF) : R :=
  cond (Nat.beq n 0) (f (.slice (some ⟨i, o, none⟩) l c) S) (rawC S i fun r => appR elem size bytes i o l c n nw S f r)
def appN (elem size bytes n : Nat) (nw : List Value) (S : AW) (f : KF) : R :=
  cond (Nat.beq n 0) (f (.slice none 0 0) S) (cond (fitB n bytes) (newC S nw elem size fun i S' => f (.slice (some ⟨i, 0, none⟩) n n) S') none)
def appT (elem size bytes : Nat) (s : Value) (n : Nat) (nw : List Value) (S : AW) (f : KF) : R :=
  match s with
  | .slice none 0 0 => appN elem size bytes n nw S f
  | .slice (some ⟨i, o, none⟩) l c => appS elem size bytes i o l c n nw S f
  | _ => none
def kApp (elem size bytes : Nat) (s x : Value) (S : AW) (f : KF) : R :=
  srcC S size x fun n nw => cond (allOk nw) (appT elem size bytes s n nw S f) none
theorem appT_inv {elem size bytes : Nat} {s : Value} {n : Nat} {nw : List Value} {S : AW} {f : KF} {x : Value × AW} (h : appT elem size bytes s n nw S f = some x) : ∃ v S', appV S elem size bytes s n nw = some (v, S') ∧ f v S' = some x := by
  unfold appT at h
  split at h
  · unfold appN at h
    rw [beqN_eq] at h
    by_cases e : n = 0
    · simp only [e, decide_true, cond_true] at h
      exact ⟨_, _, by simp only [appV, if_pos e], h⟩
    · simp only [e, decide_false, cond_false] at h
      cases e2 : fitB n bytes with
      | false => rw [e2] at h; cases h
      | true =>
        rw [e2, cond_true, newC_eq] at h
        obtain ⟨e3, e4⟩ := fitB_inv e2
        exact ⟨_, _, by simp only [appV, if_neg e, e3, e4, decide_true, Bool.and_self, if_true], h⟩
  · rename_i i o l c
    unfold appS at h
    rw [beqN_eq] at h
    by_cases e : n = 0
    · simp only [e, decide_true, cond_true] at h
      exact ⟨_, _, by simp only [appV, if_pos e], h⟩
    · simp only [e, decide_false, cond_false] at h
      obtain ⟨r, h1, h2⟩ := rawC_inv h
      unfold appR at h2
      cases e2 : (and (not r.ro) (and (Nat.beq r.es size) (Nat.beq r.elem elem))) with
      | false => rw [e2] at h2; cases h2
      | true =>
        rw [e2, cond_true] at h2
        simp only [Bool.and_eq_true, Bool.not_eq_true', Nat.beq_eq] at e2
        obtain ⟨e3, e4, e5⟩ := e2
        have e6 : (r.ro || !decide (r.es = size) || !decide (r.elem = elem)) = false := by simp [e3, e4, e5]
        cases e7 : Nat.ble (Nat.add l n) c with
        | true =>
          rw [e7, cond_true] at h2
          have e7 := Nat.le_of_ble_eq_true e7
          unfold appIn at h2
          rw [beqN_eq, lenL_eq] at h2
          by_cases e8 : nw.length = Nat.mul n size
          · simp only [e8, decide_true, cond_true] at h2
            obtain ⟨h3, h4, h5, h6⟩ := stAt_inv h2
            have h6 := putC_inv h6
            rw [frcN_eq] at h6
            rw [e8] at h5 h6
            refine ⟨_, _, ?_, h6⟩
            simp only [appV, if_neg e, h1]
            rw [if_neg (by rw [e6]; simp), if_pos (show l + n ≤ c from e7)]
            rw [if_pos (show (rowOk r.c (o + l * size) (n * size)).isSome = true from h5)]
            rfl
          · simp only [e8, decide_false, cond_false] at h2
            cases h2
        | false =>
          rw [e7, cond_false] at h2
          have e7 : ¬ l + n ≤ c := fun hle => by rw [show Nat.ble (Nat.add l n) c = true from Nat.ble_eq_true_of_le hle] at e7; cases e7
          unfold appGr at h2
          rw [frcN_eq] at h2
          obtain ⟨m, h3, h4, h5⟩ := rowAt_inv h2
          cases e8 : (and (fitB (Nat.add l n) bytes) (or (not (Nat.beq (Nat.mul l size) 0)) (Nat.ble o (lenL r.c)))) with
          | false => rw [e8] at h5; cases h5
          | true =>
            rw [e8, cond_true, h4, growC_eq, frcN_eq] at h5
            simp only [Bool.and_eq_true, Bool.or_eq_true, Nat.ble_eq, Bool.not_eq_true', lenL_eq] at e8
            obtain ⟨e9, e10⟩ := e8
            have e9 := fitB_inv e9
            have hlen : m.length = l * size ∧ m = (r.c.drop o).take (l * size) := by
              refine ⟨?_, h4⟩
              unfold rowOk at h3
              simp only at h3
              split at h3
              · rename_i hc
                simp only [Bool.and_eq_true, decide_eq_true_eq] at hc
                rw [h4]; exact hc.1
              · cases h3
            have e11 : o + l * size ≤ r.c.length := by
              obtain ⟨q1, q2⟩ := hlen
              rw [q2] at q1
              simp only [List.length_take, List.length_drop] at q1
              rcases e10 with e10 | e10
              · have : l * size ≠ 0 := fun hz => by
                  have : Nat.beq (Nat.mul l size) 0 = true := by rw [beqN_eq]; simpa using hz
                  rw [this] at e10; cases e10
                omega
              · omega
            refine ⟨_, _, ?_, h5⟩
            simp only [appV, if_neg e, h1]
            rw [if_neg (by rw [e6]; simp), if_neg e7]
            have h3' : rowOk r.c o (l * size) = some m := h3
            rw [h3']
            have e9' : (2 * (l + n) + 192) * bytes ≤ 281474976710656 ∧ l + n ≤ 140737488355328 := e9
            simp only [Option.isSome_some, e11, e9'.1, e9'.2, decide_true, Bool.and_self, if_true]
            rfl
  · cases h
theorem kApp_inv {C : Callee} {ρ : Operand → Value} {elem size bytes : Nat} {a b : Operand} {S : AW} {f : KF} {x : Value × AW} (h : kApp elem size bytes (ρ a) (ρ b) S f = some x) :
    ∃ v S', goR C S (rApp ρ S elem size bytes a b) = some (v, S') ∧ f v S' = some x := by
  obtain ⟨n, nw, h1, h2⟩ := srcC_inv h
  cases e : allOk nw with
  | false => rw [e] at h2; cases h2
  | true =>
    rw [e, cond_true] at h2
    rw [allOk_eq] at e
    obtain ⟨v, S', h3, h4⟩ := appT_inv h2
    exact ⟨v, S', by unfold rApp; simp only [h1, e, h3]; rfl, h4⟩

-- maps
def inR (k : IntKind) (n : Int) : Bool := Int.casesOn n (fun m => Nat.ble m (lim k)) fun m => and (sgn k) (Nat.ble m (lim k))
theorem inR_wf {k : IntKind} {n : Int} (h : inR k n = true) : (Lit.int k n).wf = true := by
  cases n with
  | ofNat m =>
    have h := Nat.le_of_ble_eq_true (show Nat.ble m (lim k) = true from h)
    have hm : Int.ofNat m = (m : Int) := rfl
    rw [hm]
    cases k <;> simp [lim] at h <;> simp [Lit.wf, IntKind.min, IntKind.max, IntKind.signed, IntKind.bits] <;> omega
  | negSucc m =>
    simp only [inR, Bool.and_eq_true] at h
    have h2 := Nat.le_of_ble_eq_true h.2
    have h1 := h.1
    cases k <;> simp [sgn] at h1 <;> simp [lim] at h2 <;> simp [Lit.wf, IntKind.min, IntKind.max, IntKind.signed, IntKind.bits] <;> omega
def fitLB (l : KL) (v : Value) : Bool :=
  match l with
  | .str => (match v with
    | .string s => Nat.ble (lenL s.data.toList) 9223372036854775807
    | _ => false)
  | .int q => (match v with
    | .int q' n => and (Nat.beq (idK q) (idK q')) (inR q' n)
    | _ => false)
  | .bl => (match v with
    | .bool _ => true
    | _ => false)
theorem fitLB_inv {l : KL} {v : Value} (h : fitLB l v = true) : fitsL l v = true := by
  cases l with
  | str =>
    cases v <;> simp only [fitLB] at h <;> try (cases h; done)
    rename_i s
    rw [lenL_eq, ← ba_len] at h
    have := Nat.le_of_ble_eq_true h
    simp only [fitsL, maxLen]
    exact decide_eq_true this
  | int q =>
    cases v <;> simp only [fitLB] at h <;> try (cases h; done)
    simp only [Bool.and_eq_true] at h
    have h1 : q = _ := (sameK_inv (k := q) (q := _) (r := some (undef, ⟨[], [], 0⟩)) (x := (undef, ⟨[], [], 0⟩)) (by unfold sameK; rw [h.1]; rfl)).1
    subst h1
    simp [fitsL, inR_wf h.2]
  | bl =>
    cases v <;> simp only [fitLB] at h <;> try (cases h; done)
    rfl
def fitLsB : List KL → List Value → Bool
  | [], [] => true
  | l :: ls, v :: vs => cond (fitLB l v) (fitLsB ls vs) false
  | _, _ => false
theorem fitLsB_inv : ∀ {ls : List KL} {vs : List Value}, fitLsB ls vs = true → fitsLs ls vs = true ∧ vs.length = ls.length
  | [], [], h => ⟨rfl, rfl⟩
  | [], _ :: _, h => by simp [fitLsB] at h
  | _ :: _, [], h => by simp [fitLsB] at h
  | l :: ls, v :: vs, h => by
    rw [fitLsB] at h
    cases e : fitLB l v with
    | false => rw [e] at h; cases h
    | true =>
      rw [e, cond_true] at h
      obtain ⟨h1, h2⟩ := fitLsB_inv h
      exact ⟨by rw [fitsLs, fitLB_inv e, h1]; rfl, by simp [h2]⟩
def fitB' (ks : KS) (v : Value) : Bool :=
  match ks with
  | .one l => fitLB l v
  | .agg ls => (match v with
    | .agg cs => fitLsB ls cs.toList
    | _ => false)
theorem fitB'_inv {ks : KS} {v : Value} (h : fitB' ks v = true) : fits ks v = true := by
  cases ks with
  | one l => exact fitLB_inv h
  | agg ls =>
    cases v <;> simp only [fitB'] at h <;> try (cases h; done)
    obtain ⟨h1, h2⟩ := fitLsB_inv h
    simp only [fits, h1, Bool.and_true, decide_eq_true_eq]
    simpa using h2
def keqLB (a b : Value) : Bool :=
  match a with
  | .string s => (match b with
    | .string t => beqS s t
    | _ => false)
  | .int k m => (match b with
    | .int q n => and (Nat.beq (idK k) (idK q)) (eqI m n)
    | _ => false)
  | .bool s => (match b with
    | .bool t => Bool.xor s (!t)
    | _ => false)
  | _ => false
theorem idK_eq (k q : IntKind) : Nat.beq (idK k) (idK q) = decide (k = q) := by cases k <;> cases q <;> rfl
theorem keqLB_eq (a b : Value) : keqLB a b = keqL a b := by
  cases a <;> cases b <;> simp only [keqLB, keqL, beqS_eq, eqI_eq, idK_eq]
  rename_i s t
  cases s <;> cases t <;> rfl
def keqLsB : List Value → List Value → Bool
  | [], [] => true
  | a :: x, b :: y => cond (keqLB a b) (keqLsB x y) false
  | _, _ => false
theorem keqLsB_eq : ∀ x y : List Value, keqLsB x y = keqLs x y
  | [], [] => rfl
  | [], _ :: _ => rfl
  | _ :: _, [] => rfl
  | a :: x, b :: y => by
    rw [keqLsB, keqLs, keqLB_eq, keqLsB_eq x y]
    cases keqL a b <;> rfl
def keqB (ks : KS) (a b : Value) : Bool :=
  match ks with
  | .one _ => keqLB a b
  | .agg _ => (match a with
    | .agg x => (match b with
      | .agg y => keqLsB x.toList y.toList
      | _ => false)
    | _ => false)
theorem keqB_eq (ks : KS) (a b : Value) : keqB ks a b = keq ks a b := by
  cases ks with
  | one l => simp only [keqB, keq, keqLB_eq]
  | agg ls => cases a <;> cases b <;> simp only [keqB, keq, keqLsB_eq]
/-- Where a key stands: told of all entries, one behind the other. -/
def mscan (ks : KS) (k : Value) : List (Value × Value) → Nat → Option Nat → (Option Nat → R) → R
  | [], _, acc, f => f acc
  | e :: es, n, acc, f => cond (fitB' ks e.1) (cond (keqB ks k e.1) (Option.casesOn acc (mscan ks k es (Nat.succ n) (some n) f) fun _ => none) (mscan ks k es (Nat.succ n) acc f)) none
theorem mscan_inv {ks : KS} {k : Value} : ∀ {es : List (Value × Value)} {n : Nat} {acc : Option Nat} {f : Option Nat → R} {x : Value × AW}, mscan ks k es n acc f = some x →
    (es.all fun e => fits ks e.1) = true ∧ ∃ o, f o = some x ∧ acc.toList ++ mixs ks k es n = o.toList
  | [], n, acc, f, x, h => ⟨rfl, acc, h, by simp [mixs]⟩
  | e :: es, n, acc, f, x, h => by
    rw [mscan, keqB_eq] at h
    cases e1 : fitB' ks e.1 with
    | false => rw [e1] at h; cases h
    | true =>
      rw [e1, cond_true] at h
      have hf := fitB'_inv e1
      cases e2 : keq ks k e.1 with
      | false =>
        rw [e2, cond_false] at h
        obtain ⟨h1, o, h2, h3⟩ := mscan_inv h
        exact ⟨by rw [List.all_cons, hf, h1]; rfl, o, h2, by rw [mixs, if_neg (by simp [e2])]; exact h3⟩
      | true =>
        rw [e2, cond_true] at h
        cases acc with
        | some j => cases h
        | none =>
          obtain ⟨h1, o, h2, h3⟩ := mscan_inv (show mscan ks k es (n + 1) (some n) f = some x from h)
          exact ⟨by rw [List.all_cons, hf, h1]; rfl, o, h2, by rw [mixs, if_pos e2]; exact h3⟩
def mfC (ks : KS) (k : Value) (es : List (Value × Value)) (f : Option Nat → R) : R := cond (fitB' ks k) (mscan ks k es 0 none f) none
theorem mfC_inv {ks : KS} {k : Value} {es : List (Value × Value)} {f : Option Nat → R} {x : Value × AW} (h : mfC ks k es f = some x) : ∃ o, mfind ks k es = some o ∧ f o = some x := by
  unfold mfC at h
  cases e : fitB' ks k with
  | false => rw [e] at h; cases h
  | true =>
    rw [e, cond_true] at h
    obtain ⟨h1, o, h2, h3⟩ := mscan_inv h
    refine ⟨o, ?_, h2⟩
    have h3 : mixs ks k es 0 = o.toList := by simpa using h3
    unfold mfind
    rw [fitB'_inv e, h1, h3]
    cases o <;> rfl
def outC (ok : Bool) (v : Value) (b : Bool) (S : AW) (f : KF) : R := cond ok (f (.tuple ⟨[v, .bool b]⟩) S) (f v S)
theorem outC_eq (ok : Bool) (v : Value) (b : Bool) (S : AW) (f : KF) : outC ok v b S f = f (lookOut ok v b) S := by cases ok <;> rfl
def mlkF (ok : Bool) (z : Value) (es : List (Value × Value)) (S : AW) (f : KF) (o : Option Nat) : R :=
  Option.casesOn o (outC ok z false S f) fun j => Option.casesOn (nthL es j) none fun e => outC ok e.2 true S f
def kMlk (ks : KS) (z : Value) (ok : Bool) (x k : Value) (S : AW) (f : KF) : R :=
  match x with
  | .map (some i) => mapC S i fun es => mfC ks k es fun o => mlkF ok z es S f o
  | x => kO (mlkV S ks z ok x k) S f
theorem kMlk_inv {C : Callee} {ρ : Operand → Value} {ks : KS} {z : Value} {ok : Bool} {a b : Operand} {S : AW} {f : KF} {x : Value × AW} (h : kMlk ks z ok (ρ a) (ρ b) S f = some x) :
    ∃ v S', goR C S (rMlk ρ S ks z ok a b) = some (v, S') ∧ f v S' = some x := by
  unfold rMlk
  generalize ρ a = p at h ⊢
  generalize ρ b = q at h ⊢
  unfold kMlk at h
  split at h
  · rename_i i
    obtain ⟨es, h1, h2⟩ := mapC_inv h
    obtain ⟨o, h3, h4⟩ := mfC_inv h2
    unfold mlkF at h4
    cases o with
    | none =>
      have h4 : outC ok z false S f = some x := h4
      rw [outC_eq] at h4
      exact ⟨_, _, by simp only [mlkV, h1, h3]; rfl, h4⟩
    | some j =>
      have h4 : (Option.casesOn (nthL es j) none fun e => outC ok e.2 true S f : R) = some x := h4
      rw [nthL_eq] at h4
      cases e : es[j]? with
      | none => rw [e] at h4; cases h4
      | some w =>
        rw [e] at h4
        have h4 : outC ok w.2 true S f = some x := h4
        rw [outC_eq] at h4
        exact ⟨_, _, by simp only [mlkV, h1, h3, e]; rfl, h4⟩
  · exact kO_inv h
def setC {α : Type} : List α → Nat → α → (List α → R) → R
  | [], _, _, f => f []
  | a :: l, n, v, f => Nat.casesOn n (f (v :: l)) fun n => setC l n v fun m => f (a :: m)
theorem setC_eq {α : Type} : ∀ (l : List α) (n : Nat) (v : α) (f : List α → R), setC l n v f = f (l.set n v)
  | [], n, v, f => by simp [setC]
  | a :: l, 0, v, f => rfl
  | a :: l, n + 1, v, f => by
    have : setC (a :: l) (n + 1) v f = setC l n v fun m => f (a :: m) := rfl
    rw [this, setC_eq l n]; rfl
def putMapC (S : AW) (i : Nat) (es : List (Value × Value)) (f : AW → R) : R := lputC S.heap i (.map es) fun h => f ⟨h, S.fams, S.next⟩
theorem putMapC_eq (S : AW) (i : Nat) (es : List (Value × Value)) (f : AW → R) : putMapC S i es f = f (S.putMap i es) := by
  unfold putMapC
  rw [lputC_eq]; rfl
def mupF (i : Nat) (es : List (Value × Value)) (k v : Value) (S : AW) (f : KF) (o : Option Nat) : R :=
  Option.casesOn o (catC es [(k, v)] fun es => putMapC S i es fun S' => f undef S') fun j => setC es j (k, v) fun es => putMapC S i es fun S' => f undef S'
def kMup (ks : KS) (x k v : Value) (S : AW) (f : KF) : R :=
  match x with
  | .map (some i) => mapC S i fun es => mfC ks k es fun o => mupF i es k v S f o
  | _ => none
theorem kMup_inv {C : Callee} {ρ : Operand → Value} {ks : KS} {a b c : Operand} {S : AW} {f : KF} {x : Value × AW} (h : kMup ks (ρ a) (ρ b) (ρ c) S f = some x) :
    ∃ v S', goR C S (rMup ρ S ks a b c) = some (v, S') ∧ f v S' = some x := by
  unfold rMup
  generalize ρ a = p at h ⊢
  generalize ρ b = q at h ⊢
  generalize ρ c = y at h ⊢
  unfold kMup at h
  split at h
  · rename_i i
    obtain ⟨es, h1, h2⟩ := mapC_inv h
    obtain ⟨o, h3, h4⟩ := mfC_inv h2
    unfold mupF at h4
    cases o with
    | none =>
      have h4 : (catC es [(q, y)] fun es => putMapC S i es fun S' => f undef S') = some x := h4
      rw [catC_eq, putMapC_eq] at h4
      exact ⟨_, _, by simp only [mupV, h1, h3]; rfl, h4⟩
    | some j =>
      have h4 : (setC es j (q, y) fun es => putMapC S i es fun S' => f undef S') = some x := h4
      rw [setC_eq, putMapC_eq] at h4
      exact ⟨_, _, by simp only [mupV, h1, h3]; rfl, h4⟩
  · cases h
def newMapC (S : AW) (f : Nat → AW → R) : R := frcN S.next fun x => f x ⟨(x, .map []) :: S.heap, S.fams, Nat.succ x⟩
def kMkm (r : Option Value) (S : AW) (f : KF) : R := Option.casesOn (oint r) none fun _ => newMapC S fun i S' => f (.map (some i)) S'
theorem kMkm_inv {C : Callee} {ρ : Operand → Value} {r : Option Operand} {S : AW} {f : KF} {x : Value × AW} (h : kMkm (r.map ρ) S f = some x) :
    ∃ v S', goR C S (rMkm ρ S r) = some (v, S') ∧ f v S' = some x := by
  unfold kMkm at h
  unfold rMkm
  cases e : oint (r.map ρ) with
  | none => rw [e] at h; cases h
  | some j =>
    rw [e] at h
    have h : (newMapC S fun i S' => f (.map (some i)) S') = some x := h
    unfold newMapC at h
    rw [frcN_eq] at h
    exact ⟨_, _, rfl, h⟩

-- calls
def kGo (o : R) (f : KF) : R := Option.casesOn o none fun p => Prod.casesOn p fun v S => AW.casesOn S fun h fs x => f v ⟨h, fs, x⟩
theorem kGo_inv {o : R} {f : KF} {x : Value × AW} (h : kGo o f = some x) : ∃ v S, o = some (v, S) ∧ f v S = some x := by
  cases o with
  | none => cases h
  | some p =>
    obtain ⟨v, S⟩ := p
    obtain ⟨hp, fs, n⟩ := S
    exact ⟨v, _, rfl, h⟩
def kCall (C : Callee) (g : FuncId) (args : List Value) (S : AW) (f : KF) : R := kGo (C g args S) f
def kCallV (C : Callee) (g : Value) (args : List Value) (S : AW) (f : KF) : R :=
  match g with
  | .func (.func g) first captured => kCall C g (first.toList ++ args ++ captured.toList) S f
  | _ => none
theorem kCallV_inv {C : Callee} {ρ : Operand → Value} {g : Operand} {args : List Operand} {S : AW} {f : KF} {x : Value × AW} (h : kCallV C (ρ g) (args.map ρ) S f = some x) :
    ∃ v S', goR C S (rCallV ρ S g args) = some (v, S') ∧ f v S' = some x := by
  unfold rCallV
  generalize ρ g = p at h ⊢
  unfold kCallV at h
  split at h
  · obtain ⟨v, S', h1, h2⟩ := kGo_inv h
    exact ⟨v, S', h1, h2⟩
  · cases h
def vEqN (kind : Nat) (neg : Bool) (x y : Value) : Option Value := match nilV kind x y with | some b => some (.bool (if neg then !b else b)) | none => none
def vEqA (neg : Bool) (x y : Value) : Option Value := match x, y with
    | .agg xs, .agg ys => match ceqs xs.toList ys.toList with | some b => some (.bool (if neg then !b else b)) | none => none
    | _, _ => none
def vCpy (S : AW) (size : Nat) (d s : Value) : Option Res := match cpyV S size d s with
    | some (n, S') => some (.val (.int .i64 n) S')
    | none => none
def vMdel (S : AW) (ks : KS) (x k : Value) : Option Res := match mdelV S ks x k with
    | some S' => some (.val undef S')
    | none => none

/-- An operation, told by what goes on behind it. -/
def opK (C : Callee) (e : EOp) (ρ : Operand → Value) (S : AW) (f : KF) : R :=
  match e with
  | .mov x => f (ρ x) S
  | .con x => f x S
  | .pick c a b => kPick (ρ c) (ρ a) (ρ b) S f
  | .bin op x y => kBin op (ρ x) (ρ y) S f
  | .eqB neg x y => kEqB neg (ρ x) (ρ y) S f
  | .eqN kind neg x y => kO (vEqN kind neg (ρ x) (ρ y)) S f
  | .eqA neg x y => kO (vEqA neg (ρ x) (ρ y)) S f
  | .un op x => kUn op (ρ x) S f
  | .cvI k x => kCvI k (ρ x) S f
  | .cvS x => kCvS (ρ x) S f
  | .fld sz off x => kFld sz off (ρ x) S f
  | .ext i x => kExt i (ρ x) S f
  | .build zero ps => kBuild zero (ps.map fun p => (p.1, p.2.1, ρ p.2.2)) S f
  | .fad off x => kFad off (ρ x) S f
  | .iad size x ix => kIad size (ρ x) (ρ ix) S f
  | .iadA ln size x ix => kIadA ln size (ρ x) (ρ ix) S f
  | .idxS x ix => kIdxS (ρ x) (ρ ix) S f
  | .idxA ln size ag x ix => kIdxA ln size ag (ρ x) (ρ ix) S f
  | .slS x lo hi => kSlS (ρ x) (lo.map ρ) (hi.map ρ) S f
  | .slV size x lo hi mm => kSlV C size (ρ x) (lo.map ρ) (hi.map ρ) (mm.map ρ) S f
  | .nilc x => kNilc (ρ x) S f
  | .mkf g fs cs => f (.func (.func g) (fs.map ρ).toArray (cs.map ρ).toArray) S
  | .len str x => kLen str (ρ x) S f
  | .mx xs => kO (mmV true (xs.map ρ)) S f
  | .mn xs => kO (mmV false (xs.map ρ)) S f
  | .ld sz x => kLd sz (ρ x) S f
  | .cvBS x => kCvBS (ρ x) S f
  | .st size x y => kSt size (ρ x) (ρ y) S f
  | .cpy size d s => kR C (vCpy S size (ρ d) (ρ s)) S f
  | .mkm r => kMkm (r.map ρ) S f
  | .mlk ks z ok x k => kMlk ks z ok (ρ x) (ρ k) S f
  | .mup ks x k y => kMup ks (ρ x) (ρ k) (ρ y) S f
  | .mdel ks x k => kR C (vMdel S ks (ρ x) (ρ k)) S f
  | .lenM x => kO (lenMV S (ρ x)) S f
  | .box elem es x => kBox elem es (ρ x) S f
  | .new elem es cells => kNew elem es cells S f
  | .lit elem size zero n ps => kLit elem size zero n (ps.map fun p => (p.1, p.2.1, ρ p.2.2)) S f
  | .mks elem size bytes zero l c => kMks elem size bytes zero (ρ l) (ρ c) S f
  | .cvSB elem x => kCvSB elem (ρ x) S f
  | .app elem size bytes s x => kApp elem size bytes (ρ s) (ρ x) S f
  | .call g args => kCall C g (args.map ρ) S f
  | .callV g args => kCallV C (ρ g) (args.map ρ) S f
  | .bx g args => kCall C g (args.map ρ) S f
  | .no => none
theorem opK_inv {C : Callee} {e : EOp} {ρ : Operand → Value} {S : AW} {f : KF} {x : Value × AW} (h : opK C e ρ S f = some x) : ∃ v S', goR C S (e.runR ρ S) = some (v, S') ∧ f v S' = some x := by
  cases e <;> simp only [opK] at h <;> simp only [EOp.runR]
  case mov => exact ⟨_, _, rfl, h⟩
  case con => exact ⟨_, _, rfl, h⟩
  case pick => exact kPick_inv h
  case bin => exact kBin_inv h
  case eqB => exact kEqB_inv h
  case eqN kind neg a b =>
    obtain ⟨v, S', h1, h2⟩ := kO_inv (C := C) h
    refine ⟨v, S', ?_, h2⟩
    rw [← h1]
    unfold rEqN vEqN
    cases nilV kind (ρ a) (ρ b) <;> rfl
  case eqA neg a b =>
    obtain ⟨v, S', h1, h2⟩ := kO_inv (C := C) h
    refine ⟨v, S', ?_, h2⟩
    rw [← h1]
    unfold rEqA vEqA
    generalize ρ a = p
    generalize ρ b = q
    cases p <;> cases q <;> try rfl
    rename_i xs ys
    simp only
    cases ceqs xs.toList ys.toList <;> rfl
  case un => exact kUn_inv h
  case cvI => exact kCvI_inv h
  case cvS => exact kCvS_inv h
  case fld => exact kFld_inv h
  case ext => exact kExt_inv h
  case build => exact kBuild_inv h
  case fad => exact kFad_inv h
  case iad => exact kIad_inv h
  case iadA => exact kIadA_inv h
  case idxS => exact kIdxS_inv h
  case idxA => exact kIdxA_inv h
  case slS => exact kSlS_inv h
  case slV => exact kSlV_inv h
  case nilc => exact kNilc_inv h
  case mkf => exact ⟨_, _, rfl, h⟩
  case len => exact kLen_inv h
  case mx => exact kO_inv h
  case mn => exact kO_inv h
  case ld => exact kLd_inv h
  case cvBS => exact kCvBS_inv h
  case st => exact kSt_inv h
  case cpy => exact kR_inv h
  case mkm => exact kMkm_inv h
  case mlk => exact kMlk_inv h
  case mup => exact kMup_inv h
  case mdel => exact kR_inv h
  case lenM => exact kO_inv h
  case box => exact kBox_inv h
  case new => exact kNew_inv h
  case lit => exact kLit_inv h
  case mks => exact kMks_inv h
  case cvSB => exact kCvSB_inv h
  case app => exact kApp_inv h
  case call => exact kGo_inv h
  case callV => exact kCallV_inv h
  case bx => exact kGo_inv h
  case no => cases h
end Go.Proofs.YtbngpadibllogaaGreatDoor.Ev
