/- Steps of texts, told as equations: for reasoning. -/
import Derived.Test.YthclmjelknibhaaEvU9
namespace Go.Proofs.Ythclmjelknibhaa.Ev
open Go Go.RowKit
set_option linter.unusedVariables false
set_option linter.constructorNameAsVariable false
set_option linter.unusedSimpArgs false
set_option linter.unusedSectionVars false

theorem gcU_false (n : Nat) (r : RU) : gcU false n r = r := by
  cases r with
  | no => rfl
  | ok v F => cases F; rfl
theorem clU_get {D : DU} {f : Nat} {g : Fu} (h : ∀ k, D.get f k = k g false) (n : Nat) (args : List FV) (F : FAW) : clU D (n + 1) f args F = g (clU D n) n args F := by
  show stepU D (clU D n) n f args F = _
  unfold stepU
  rw [h]
  cases F
  exact gcU_false _ _
theorem goOn_ok (v : FV) (F : FAW) (f : KU) : goOn (.ok v F) f = f v F := by cases F; rfl
theorem cn_dec (p : Prop) [Decidable p] (x y : RU) : cn (decide p) x y = if p then x else y := by
  by_cases h : p
  · rw [if_pos h, decide_eq_true h]; rfl
  · rw [if_neg h, decide_eq_false h]; rfl
theorem eT_t (b : Bool) (f : Bool → RU) : eT (.t b) f = f b := rfl
theorem xo_f (b : Bool) : xo false b = b := rfl
theorem xo_t (b : Bool) : xo true b = !b := by cases b <;> rfl
theorem seqU_eq {V : Type} (a b : CdU V) (v : V) (F : FAW) (κ : EX → V → FAW → RU) : seqU a b v F κ = a v F fun o v F => exU o (b v F κ) (fun i => κ (.exit i) v F) (κ .ret v F) := rfl
theorem condU_eq {V : Type} (c : V → FV) (a b : CdU V) (v : V) (F : FAW) (κ : EX → V → FAW → RU) : condU c a b v F κ = eT (c v) fun t => cn t (a v F κ) (b v F κ) := rfl
theorem blockU_eq {V : Type} (id : Nat) (a : CdU V) (v : V) (F : FAW) (κ : EX → V → FAW → RU) : blockU id a v F κ = a v F fun o v F => exU o (κ .normal v F) (fun i => cn (Nat.beq i id) (κ .normal v F) (κ (.exit i) v F)) (κ .ret v F) := rfl
theorem skipU_eq {V : Type} (v : V) (F : FAW) (κ : EX → V → FAW → RU) : skipU v F κ = κ .normal v F := rfl
theorem retU_eq {V : Type} (v : V) (F : FAW) (κ : EX → V → FAW → RU) : retU v F κ = κ .ret v F := rfl
theorem exitU_eq {V : Type} (id : Nat) (v : V) (F : FAW) (κ : EX → V → FAW → RU) : exitU id v F κ = κ (.exit id) v F := rfl
theorem loopU_eq {V : Type} (n : Nat) (a : CdU V) (v : V) (F : FAW) (κ : EX → V → FAW → RU) : loopU n a v F κ = loopNU a κ n v F := rfl
theorem loopNU_succ {V : Type} (n : Nat) (a : CdU V) (v : V) (F : FAW) (κ : EX → V → FAW → RU) : loopNU a κ (n + 1) v F = a v F fun o v F => exU o (loopNU a κ n v F) (fun i => κ (.exit i) v F) (κ .ret v F) := rfl
theorem exU_n (a : RU) (b : Nat → RU) (c : RU) : exU .normal a b c = a := rfl
theorem exU_e (i : Nat) (a : RU) (b : Nat → RU) (c : RU) : exU (.exit i) a b c = b i := rfl
theorem exU_r (a : RU) (b : Nat → RU) (c : RU) : exU .ret a b c = c := rfl
theorem uCall_eq (U : CU) (g : FuncId) (args : List FV) (F : FAW) (f : KU) : uCall U g args F f = goOn (U g args F) f := rfl

section
variable (F : FAW) (f : KU)
theorem uVal_eq (v : FV) : uVal v F f = f v F := rfl
theorem uNum_le {m : Nat} (h : m ≤ 9223372036854775807) : uNum m F f = f (.n m) F := by
  unfold uNum
  rw [fN_eq, bleU, decide_eq_true h]; rfl
theorem uAdd_nn {a b : Nat} (h : a + b ≤ 9223372036854775807) : uAdd (.n a) (.n b) F f = f (.n (a + b)) F := uNum_le F f h
theorem uMul_nn {a b : Nat} (h : a * b ≤ 9223372036854775807) : uMul (.n a) (.n b) F f = f (.n (a * b)) F := uNum_le F f h
theorem uSub_nn {a b : Nat} (h : b ≤ a) (ha : a ≤ 9223372036854775807) : uSub (.n a) (.n b) F f = f (.n (a - b)) F := by
  show uSubN a b _ _ F f = _
  unfold uSubN
  rw [bleU, decide_eq_true h]
  exact uNum_le F f (by show a - b ≤ _; omega)
theorem uEq_nn (neg : Bool) (op : BinOp) (a b : Nat) : uEq neg op (.n a) (.n b) F f = f (.t (xo neg (decide (a = b)))) F := by
  show f (.t (xo neg (Nat.beq a b))) F = _
  rw [beqU]
theorem uEq_bb (neg : Bool) (op : BinOp) (a b : Nat) : uEq neg op (.b a) (.b b) F f = f (.t (xo neg (decide (a = b)))) F := by
  show f (.t (xo neg (Nat.beq a b))) F = _
  rw [beqU]
theorem uLss_nn (op : BinOp) (a b : Nat) : uCmp ltN op (.n a) (.n b) F f = f (.t (decide (a < b))) F := by
  show f (.t (ltN a b)) F = _
  rw [ltN_eq]
theorem uLeq_nn (op : BinOp) (a b : Nat) : uCmp Nat.ble op (.n a) (.n b) F f = f (.t (decide (a ≤ b))) F := by
  show f (.t (Nat.ble a b)) F = _
  rw [bleU]
theorem uGtr_nn (op : BinOp) (a b : Nat) : uCmp (fun a b => ltN b a) op (.n a) (.n b) F f = f (.t (decide (b < a))) F := by
  show f (.t (ltN b a)) F = _
  rw [ltN_eq]
theorem uGeq_nn (op : BinOp) (a b : Nat) : uCmp (fun a b => Nat.ble b a) op (.n a) (.n b) F f = f (.t (decide (b ≤ a))) F := by
  show f (.t (Nat.ble b a)) F = _
  rw [bleU]
theorem uLss_bb (op : BinOp) (a b : Nat) : uCmp ltN op (.b a) (.b b) F f = f (.t (decide (a < b))) F := by
  show f (.t (ltN a b)) F = _
  rw [ltN_eq]
theorem uLeq_bb (op : BinOp) (a b : Nat) : uCmp Nat.ble op (.b a) (.b b) F f = f (.t (decide (a ≤ b))) F := by
  show f (.t (Nat.ble a b)) F = _
  rw [bleU]
theorem uGtr_bb (op : BinOp) (a b : Nat) : uCmp (fun a b => ltN b a) op (.b a) (.b b) F f = f (.t (decide (b < a))) F := by
  show f (.t (ltN b a)) F = _
  rw [ltN_eq]
theorem uGeq_bb (op : BinOp) (a b : Nat) : uCmp (fun a b => Nat.ble b a) op (.b a) (.b b) F f = f (.t (decide (b ≤ a))) F := by
  show f (.t (Nat.ble b a)) F = _
  rw [bleU]
theorem uNot_t (b : Bool) : uNot (.t b) F f = f (.t (!b)) F := by
  show f (.t (nt b)) F = _
  rw [nt_eq]
theorem uEqB_tt (neg a b : Bool) : uEqB neg (.t a) (.t b) F f = f (.t (xo neg (a == b))) F := by
  show f (.t (xo neg (xo a (nt b)))) F = _
  cases a <;> cases b <;> rfl
theorem uPick_t (b : Bool) (x y : FV) : uPick (.t b) x y F f = if b then f x F else f y F := by cases b <;> rfl
theorem uLen_s (l : List Nat) : uLen true (.s l) F f = f (.n l.length) F := by
  show fN (lenU l) (fun n => f (.n n) F) = _
  rw [fN_eq, lenU_eq]
theorem uLen_l (i o n c : Nat) : uLen false (.l i o n c) F f = f (.n n) F := rfl
theorem uLen_nl : uLen false .nl F f = f (.n 0) F := rfl
theorem uExt_u (l : List FV) (i : Nat) : uExt i (.u l) F f = nthU l i fun v => f v F := rfl

/-- Bytes. -/
def Bs (l : List Nat) : Prop := ∀ x ∈ l, x < 256
theorem Bs.nil : Bs [] := fun x h => by cases h
theorem Bs.append {a b : List Nat} (h : Bs a) (k : Bs b) : Bs (a ++ b) := fun x hx => by
  rcases List.mem_append.mp hx with hx | hx
  · exact h x hx
  · exact k x hx
theorem Bs.take {a : List Nat} (h : Bs a) (n : Nat) : Bs (a.take n) := fun x hx => h x (List.mem_of_mem_take hx)
theorem Bs.drop {a : List Nat} (h : Bs a) (n : Nat) : Bs (a.drop n) := fun x hx => h x (List.mem_of_mem_drop hx)
theorem beqLU_bs : ∀ {a b : List Nat}, Bs a → Bs b → beqLU a b = decide (a = b)
  | [], [], _, _ => rfl
  | [], _ :: _, _, _ => rfl
  | _ :: _, [], _, _ => rfl
  | x :: a, y :: b, ha, hb => by
    have : beqLU (x :: a) (y :: b) = an (Nat.beq (Nat.mod x 256) (Nat.mod y 256)) (beqLU a b) := rfl
    have hx : Nat.mod x 256 = x := Nat.mod_eq_of_lt (ha x (by simp))
    have hy : Nat.mod y 256 = y := Nat.mod_eq_of_lt (hb y (by simp))
    rw [this, hx, hy, an_eq, beqU, beqLU_bs (fun z hz => ha z (by simp [hz])) (fun z hz => hb z (by simp [hz]))]
    simp only [List.cons.injEq, Bool.decide_and]
theorem uEq_ss (neg : Bool) (op : BinOp) {a b : List Nat} (ha : Bs a) (hb : Bs b) : uEq neg op (.s a) (.s b) F f = f (.t (xo neg (decide (a = b)))) F := by
  show f (.t (xo neg (beqLU a b))) F = _
  rw [beqLU_bs ha hb]
theorem uAdd_ss {a b : List Nat} (h : a.length + b.length ≤ 9223372036854775807) : uAdd (.s a) (.s b) F f = f (.s (a ++ b)) F := by
  show uStr a b F f = _
  unfold uStr
  rw [catU_eq, bleU, lenU_eq, lenU_eq, decide_eq_true (show Nat.add a.length b.length ≤ _ from h)]; rfl
end
theorem nthU_some {α : Type} : ∀ {l : List α} {k : Nat} {x : α} (g : α → RU), l[k]? = some x → nthU l k g = g x
  | [], k, x, g, h => by simp at h
  | a :: l, 0, x, g, h => by
    simp only [List.getElem?_cons_zero, Option.some.injEq] at h
    subst h; rfl
  | a :: l, k + 1, x, g, h => by
    simp only [List.getElem?_cons_succ] at h
    exact (show nthU l k g = g x from nthU_some g h)
theorem dropU_le {α : Type} : ∀ {l : List α} {n : Nat} (f : List α → RU), n ≤ l.length → dropU l n f = f (l.drop n)
  | [], 0, f, _ => rfl
  | [], n + 1, f, h => by simp at h
  | a :: l, 0, f, _ => rfl
  | a :: l, n + 1, f, h => (show dropU l n f = f (l.drop n) from dropU_le f (by simpa using h))
theorem takeU_le {α : Type} : ∀ {l : List α} {n : Nat} (f : List α → RU), n ≤ l.length → takeU l n f = f (l.take n)
  | [], 0, f, _ => rfl
  | [], n + 1, f, h => by simp at h
  | a :: l, 0, f, _ => rfl
  | a :: l, n + 1, f, h => (show takeU l n (fun r => f (a :: r)) = f (a :: l.take n) from takeU_le _ (by simpa using h))
section
variable (F : FAW) (f : KU)
theorem uIdxS_n {l : List Nat} {k x : Nat} (hl : Bs l) (h : l[k]? = some x) : uIdxS (.s l) (.n k) F f = f (.b x) F := by
  show nthU l k (fun x => fN (Nat.mod x 256) fun x => f (.b x) F) = _
  rw [nthU_some _ h, fN_eq]
  have hx : Nat.mod x 256 = x := Nat.mod_eq_of_lt (hl x (List.mem_of_getElem? h))
  rw [hx]
theorem eI_n (m : Nat) (g : Nat → RU) : eI (.n m) g = g m := rfl
theorem eI_b (m : Nat) (g : Nat → RU) : eI (.b m) g = g m := rfl
theorem uSlS_nn {l : List Nat} {a b : Nat} (h1 : a ≤ b) (h2 : b ≤ l.length) : uSlS (.s l) (some (.n a)) (some (.n b)) F f = f (.s ((l.drop a).take (b - a))) F := by
  have e : uSlS (.s l) (some (.n a)) (some (.n b)) F f = fN a fun k => dropU l k fun r => cn (Nat.ble k b) (takeU r (Nat.sub b k) fun m => f (.s m) F) .no := rfl
  rw [e, fN_eq, dropU_le _ (by omega), bleU, decide_eq_true h1, cn_true, takeU_le _ (by show b - a ≤ _; rw [List.length_drop]; omega)]
  rfl
theorem uSlS_n0 {l : List Nat} {b : Nat} (h2 : b ≤ l.length) : uSlS (.s l) none (some (.n b)) F f = f (.s (l.take b)) F := by
  have e : uSlS (.s l) none (some (.n b)) F f = dropU l 0 fun r => cn (Nat.ble 0 b) (takeU r (Nat.sub b 0) fun m => f (.s m) F) .no := rfl
  rw [e, dropU_le _ (by omega), bleU, decide_eq_true (by omega), cn_true, takeU_le _ (by show b - 0 ≤ _; rw [List.length_drop]; omega)]
  rfl
theorem uSlS_n1 {l : List Nat} {a : Nat} (h2 : a ≤ l.length) : uSlS (.s l) (some (.n a)) none F f = f (.s (l.drop a)) F := by
  have e : uSlS (.s l) (some (.n a)) none F f = fN a fun k => dropU l k fun r => f (.s r) F := rfl
  rw [e, fN_eq, dropU_le _ h2]
end

-- memory
def getH : HL → Nat → Option (List FV × Nat × Nat × Nat × Bool)
  | .nil, _ => none
  | .cell j c e s m o r, i => if i = j then some (c, e, s, m, o) else getH r i
  | .map _ _ r, i => getH r i
def getMp : HL → Nat → Option (List (FV × FV))
  | .nil, _ => none
  | .cell _ _ _ _ _ _ r, i => getMp r i
  | .map j es r, i => if i = j then some es else getMp r i
def getFm : FL → Nat → Option (Bool × Nat)
  | .nil, _ => none
  | .fam j m e r, i => if i = j then some (m, e) else getFm r i
def putHL (i : Nat) (d : List FV) : HL → HL
  | .nil => .nil
  | .cell j c e s m o r => if i = j then .cell j d e s m o r else .cell j c e s m o (putHL i d r)
  | .map j es r => .map j es (putHL i d r)
def putFL (i : Nat) (mu : Bool) (ex : Nat) : FL → FL
  | .nil => .nil
  | .fam j m e r => if i = j then .fam j mu ex r else .fam j m e (putFL i mu ex r)
theorem findH_get : ∀ {h : HL} {i : Nat} {c e s m o} (f : List FV → Nat → Nat → Nat → Bool → RU), getH h i = some (c, e, s, m, o) → findH h i f = f c e s m o
  | .nil, i, c, e, s, m, o, f, h => by cases h
  | .cell j c' e' s' m' o' r, i, c, e, s, m, o, f, h => by
    show cn (Nat.beq i j) (f c' e' s' m' o') (findH r i f) = _
    rw [beqU, cn_dec]
    simp only [getH] at h
    split at h
    · rename_i e
      simp only [Option.some.injEq, Prod.mk.injEq] at h
      obtain ⟨rfl, rfl, rfl, rfl, rfl⟩ := h
      rw [if_pos e]
    · rename_i e
      rw [if_neg e]; exact findH_get f h
  | .map j es r, i, c, e, s, m, o, f, h => findH_get (h := r) f h
theorem findM_get : ∀ {h : HL} {i : Nat} {es : List (FV × FV)} (f : List (FV × FV) → RU), getMp h i = some es → findM h i f = f es
  | .nil, i, es, f, h => by cases h
  | .cell j c' e' s' m' o' r, i, es, f, h => findM_get (h := r) f h
  | .map j es' r, i, es, f, h => by
    show cn (Nat.beq i j) (f es') (findM r i f) = _
    rw [beqU, cn_dec]
    simp only [getMp] at h
    split at h
    · rename_i e
      simp only [Option.some.injEq] at h
      subst h
      rw [if_pos e]
    · rename_i e
      rw [if_neg e]; exact findM_get f h
theorem findF_get : ∀ {l : FL} {i : Nat} {m e} (f : Bool → Nat → RU), getFm l i = some (m, e) → findF l i f = f m e
  | .nil, i, m, e, f, h => by cases h
  | .fam j m' e' r, i, m, e, f, h => by
    show cn (Nat.beq i j) (f m' e') (findF r i f) = _
    rw [beqU, cn_dec]
    simp only [getFm] at h
    split at h
    · rename_i e
      simp only [Option.some.injEq, Prod.mk.injEq] at h
      obtain ⟨rfl, rfl⟩ := h
      rw [if_pos e]
    · rename_i e
      rw [if_neg e]; exact findF_get f h
theorem setH_get (i : Nat) (d : List FV) : ∀ {h : HL} {r} (f : HL → RU), getH h i = some r → setH i d h f = f (putHL i d h)
  | .nil, r, f, h => by cases h
  | .cell j c' e' s' m' o' t, r, f, h => by
    show cn (Nat.beq i j) (f (.cell j d e' s' m' o' t)) (setH i d t fun t => f (.cell j c' e' s' m' o' t)) = _
    rw [beqU, cn_dec]
    simp only [getH] at h
    simp only [putHL]
    split at h
    · rename_i e
      rw [if_pos e, if_pos e]
    · rename_i e
      rw [if_neg e, if_neg e]; exact setH_get i d _ h
  | .map j es t, r, f, h => setH_get i d (h := t) (fun t => f (.map j es t)) h
theorem setF_get (i : Nat) (mu : Bool) (ex : Nat) : ∀ {l : FL} {r} (f : FL → RU), getFm l i = some r → setF i mu ex l f = f (putFL i mu ex l)
  | .nil, r, f, h => by cases h
  | .fam j m' e' t, r, f, h => by
    show cn (Nat.beq i j) (f (.fam j mu ex t)) (setF i mu ex t fun t => f (.fam j m' e' t)) = _
    rw [beqU, cn_dec]
    simp only [getFm] at h
    simp only [putFL]
    split at h
    · rename_i e
      rw [if_pos e, if_pos e]
    · rename_i e
      rw [if_neg e, if_neg e]; exact setF_get i mu ex _ h
theorem getH_put (i : Nat) (d : List FV) (j : Nat) : ∀ h : HL, getH (putHL i d h) j = if j = i then (getH h i).map (fun r => (d, r.2)) else getH h j
  | .nil => by simp [putHL, getH]
  | .cell k c e s m o r => by
    simp only [putHL]
    by_cases hk : i = k
    · subst hk
      rw [if_pos rfl]
      simp only [getH]
      by_cases hj : j = i
      · simp [hj]
      · simp [hj]
    · rw [if_neg hk]
      simp only [getH]
      rw [getH_put i d j r]
      by_cases hj : j = i
      · subst hj; simp [hk]
      · by_cases hjk : j = k
        · subst hjk; simp [hj]
        · simp [hj, hjk]
  | .map k es r => by
    simp only [putHL, getH]
    exact getH_put i d j r
theorem getMp_put (i : Nat) (d : List FV) (j : Nat) : ∀ h : HL, getMp (putHL i d h) j = getMp h j
  | .nil => rfl
  | .cell k c e s m o r => by
    simp only [putHL]
    split
    · rfl
    · simp only [getMp]; exact getMp_put i d j r
  | .map k es r => by
    simp only [putHL, getMp, getMp_put i d j r]
theorem getFm_put (i : Nat) (mu : Bool) (ex : Nat) (j : Nat) : ∀ l : FL, getFm (putFL i mu ex l) j = if j = i then (getFm l i).map (fun _ => (mu, ex)) else getFm l j
  | .nil => by simp [putFL, getFm]
  | .fam k m e r => by
    simp only [putFL]
    by_cases hk : i = k
    · subst hk
      rw [if_pos rfl]
      simp only [getFm]
      by_cases hj : j = i
      · simp [hj]
      · simp [hj]
    · rw [if_neg hk]
      simp only [getFm]
      rw [getFm_put i mu ex j r]
      by_cases hj : j = i
      · subst hj; simp [hk]
      · by_cases hjk : j = k
        · subst hjk; simp [hj]
        · simp [hj, hjk]
def FAW.row (F : FAW) (i : Nat) : Option (List FV × Nat × Nat × Nat × Bool) := getH F.h i
def FAW.fam (F : FAW) (i : Nat) : Option (Bool × Nat) := getFm F.fs i
def FAW.mp (F : FAW) (i : Nat) : Option (List (FV × FV)) := getMp F.h i
def FAW.put (F : FAW) (i : Nat) (d : List FV) : FAW := ⟨putHL i d F.h, F.fs, F.x⟩
def FAW.new (F : FAW) (c : List FV) (elem es : Nat) : FAW := ⟨.cell F.x c elem es F.x false F.h, .fam F.x false c.length F.fs, F.x + 1⟩
theorem row_put (F : FAW) (i : Nat) (d : List FV) (j : Nat) : (F.put i d).row j = if j = i then (F.row i).map (fun r => (d, r.2)) else F.row j := getH_put i d j F.h
theorem fam_put (F : FAW) (i : Nat) (d : List FV) (j : Nat) : (F.put i d).fam j = F.fam j := rfl
theorem mp_put (F : FAW) (i : Nat) (d : List FV) (j : Nat) : (F.put i d).mp j = F.mp j := getMp_put i d j F.h
theorem row_new (F : FAW) (c : List FV) (elem es : Nat) (j : Nat) : (F.new c elem es).row j = if j = F.x then some (c, elem, es, F.x, false) else F.row j := rfl
theorem fam_new (F : FAW) (c : List FV) (elem es : Nat) (j : Nat) : (F.new c elem es).fam j = if j = F.x then some (false, c.length) else F.fam j := rfl
theorem mp_new (F : FAW) (c : List FV) (elem es : Nat) (j : Nat) : (F.new c elem es).mp j = F.mp j := rfl
theorem newU_new (F : FAW) (c : List FV) (elem es : Nat) (f : Nat → FAW → RU) : newU c elem es F f = f F.x (F.new c elem es) := by
  unfold newU
  rw [fN_eq, fN_eq, lenU_eq]
  rfl
/-- A value that may stand in a cell, and is known. -/
def Fi (v : FV) : Prop := (∀ r, eX v r = r) ∧ (∀ r, eC v r = r) ∧ cellsU v = [v]
theorem Fi.n (m : Nat) : Fi (.n m) := ⟨fun _ => rfl, fun _ => rfl, rfl⟩
theorem Fi.b (m : Nat) : Fi (.b m) := ⟨fun _ => rfl, fun _ => rfl, rfl⟩
theorem Fi.i (k : IntKind) (z : Int) : Fi (.i k z) := ⟨fun _ => rfl, fun _ => rfl, rfl⟩
theorem Fi.t (b : Bool) : Fi (.t b) := ⟨fun _ => rfl, fun _ => rfl, rfl⟩
theorem Fi.s (l : List Nat) : Fi (.s l) := ⟨fun _ => rfl, fun _ => rfl, rfl⟩
theorem Fi.p (i o : Nat) : Fi (.p i o) := ⟨fun _ => rfl, fun _ => rfl, rfl⟩
theorem Fi.l (i o n c : Nat) : Fi (.l i o n c) := ⟨fun _ => rfl, fun _ => rfl, rfl⟩
theorem Fi.m (i : Nat) : Fi (.m i) := ⟨fun _ => rfl, fun _ => rfl, rfl⟩
theorem Fi.np : Fi .np := ⟨fun _ => rfl, fun _ => rfl, rfl⟩
theorem Fi.nl : Fi .nl := ⟨fun _ => rfl, fun _ => rfl, rfl⟩
theorem Fi.nm : Fi .nm := ⟨fun _ => rfl, fun _ => rfl, rfl⟩
theorem Fi.nf : Fi .nf := ⟨fun _ => rfl, fun _ => rfl, rfl⟩
theorem uLd_row {F : FAW} {i k : Nat} {c e s m o} (f : KU) (hr : F.row i = some (c, e, s, m, o)) {w : FV} (hc : c[k]? = some w) (hw : Fi w) : uLd none (.p i k) F f = f w F := by
  show findH F.h i (fun c _ _ _ _ => nthU c k fun v => eX v (f v F)) = _
  rw [findH_get _ hr, nthU_some _ hc, hw.1]
theorem uGet_row {F : FAW} {i k off : Nat} {c e s m o} (f : KU) (hr : F.row i = some (c, e, s, m, o)) {w : FV} (hc : c[k + off]? = some w) (hw : Fi w) : uGet off (.p i k) F f = f w F := by
  show fN (Nat.add k off) (fun o => uLd none (.p i o) F f) = _
  rw [fN_eq]
  exact uLd_row f hr hc hw
theorem stU_one {a w : FV} {l : List FV} (g : List FV → RU) (ha : Fi a) (hw : Fi w) : stU (a :: l) [w] g = g (w :: l) := by
  show eX a (eC w (g (w :: l))) = _
  rw [ha.1, hw.2.1]
theorem stAtU_one {w : FV} (hw : Fi w) : ∀ {l : List FV} {n : Nat} {a : FV} (g : List FV → RU), l[n]? = some a → Fi a → stAtU l n [w] g = g (l.set n w)
  | [], n, a, g, h, _ => by simp at h
  | x :: l, 0, a, g, h, ha => by
    simp only [List.getElem?_cons_zero, Option.some.injEq] at h
    subst h
    exact stU_one g ha hw
  | x :: l, n + 1, a, g, h, ha => by
    simp only [List.getElem?_cons_succ] at h
    exact (show stAtU l n [w] (fun r => g (x :: r)) = g (x :: l.set n w) from stAtU_one hw _ h ha)
theorem putU_put {F : FAW} {i : Nat} {c e s m o} {ex : Nat} (hr : F.row i = some (c, e, s, m, o)) (hf : F.fam m = some (false, ex)) {d : List FV} (hd : d.length ≤ ex) (f : FAW → RU) : putU F i m d f = f (F.put i d) := by
  unfold putU
  rw [findF_get _ hf]
  show cn (Nat.ble (lenU d) ex) (setH i d F.h fun h => f ⟨h, F.fs, F.x⟩) _ = _
  rw [bleU, lenU_eq, decide_eq_true hd, cn_true, setH_get i d _ hr]
  rfl
theorem uSt_row {F : FAW} {i k : Nat} {c e s m} {ex : Nat} (f : KU) (hr : F.row i = some (c, e, s, m, false)) (hf : F.fam m = some (false, ex)) (hl : c.length ≤ ex) {a w : FV} (hc : c[k]? = some a) (ha : Fi a) (hw : Fi w) : uSt 1 (.p i k) w F f = f (.u []) (F.put i (c.set k w)) := by
  show uStR 1 i k (cellsU w) F f = _
  rw [hw.2.2]
  unfold uStR
  rw [findH_get _ hr, cn_false]
  show stAtU c k [w] (fun d => putU F i m d fun F' => f (.u []) F') = _
  rw [stAtU_one hw _ hc ha, putU_put hr hf (by rw [List.length_set]; exact hl)]
end Go.Proofs.Ythclmjelknibhaa.Ev
/- Slices that are built by append; what is known and stands. -/
namespace Go.Proofs.Ythclmjelknibhaa.Ev
open Go Go.RowKit
set_option linter.unusedVariables false
set_option linter.constructorNameAsVariable false
set_option linter.unusedSimpArgs false
set_option linter.unusedSectionVars false

/-- Each row's family lies below a count. -/
def Own (n : Nat) : HL → Prop
  | .nil => True
  | .cell _ _ _ _ m _ r => m < n ∧ Own n r
  | .map _ _ r => Own n r
theorem Own.get {n j : Nat} : ∀ {h : HL} {r}, Own n h → getH h j = some r → r.2.2.2.1 < n
  | .nil, r, _, h => by cases h
  | .cell k c e s m o t, r, hn, h => by
    simp only [getH] at h
    split at h
    · simp only [Option.some.injEq] at h
      subst h
      exact hn.1
    · exact Own.get hn.2 h
  | .map k es t, r, hn, h => Own.get (h := t) hn h
theorem Own.put {n i : Nat} {d : List FV} : ∀ {h : HL}, Own n h → Own n (putHL i d h)
  | .nil, h => h
  | .cell k c e s m o t, h => by
    simp only [putHL]
    split
    · exact h
    · exact ⟨h.1, Own.put h.2⟩
  | .map k es t, h => Own.put (h := t) h
theorem Own.mono {n n' : Nat} (hn : n ≤ n') : ∀ {h : HL}, Own n h → Own n' h
  | .nil, h => h
  | .cell k c e s m o t, h => ⟨Nat.lt_of_lt_of_le h.1 hn, Own.mono hn h.2⟩
  | .map k es t, h => Own.mono (h := t) hn h
/-- All that is known lies below the count. -/
structure Wf (F : FAW) : Prop where
  own : Own F.x F.h
  row : ∀ j r, F.row j = some r → j < F.x
  fam : ∀ j r, F.fam j = some r → j < F.x
  mp : ∀ j r, F.mp j = some r → j < F.x
/-- What is known stands, but for some rows and families. -/
structure Std (F F' : FAW) (A B : Nat → Prop) : Prop where
  row : ∀ j r, ¬ A j → F.row j = some r → F'.row j = some r
  fam : ∀ j r, ¬ B j → F.fam j = some r → F'.fam j = some r
  mp : ∀ j r, F.mp j = some r → F'.mp j = some r
  x : F.x ≤ F'.x
theorem Std.refl (F : FAW) (A B : Nat → Prop) : Std F F A B := ⟨fun _ _ _ h => h, fun _ _ _ h => h, fun _ _ h => h, Nat.le_refl _⟩
theorem Std.trans {F F' F'' : FAW} {A B : Nat → Prop} (h : Std F F' A B) (k : Std F' F'' A B) : Std F F'' A B :=
  ⟨fun j r hj e => k.row j r hj (h.row j r hj e), fun j r hj e => k.fam j r hj (h.fam j r hj e), fun j r e => k.mp j r (h.mp j r e), Nat.le_trans h.x k.x⟩
theorem Std.mono {F F' : FAW} {A B A' B' : Nat → Prop} (h : Std F F' A B) (hA : ∀ j, A j → A' j) (hB : ∀ j, B j → B' j) : Std F F' A' B' :=
  ⟨fun j r hj e => h.row j r (fun q => hj (hA j q)) e, fun j r hj e => h.fam j r (fun q => hj (hB j q)) e, h.mp, h.x⟩
theorem Wf.new {F : FAW} (h : Wf F) (c : List FV) (elem es : Nat) : Wf (F.new c elem es) := by
  have hx : (F.new c elem es).x = F.x + 1 := rfl
  refine ⟨⟨Nat.lt_succ_self _, h.own.mono (Nat.le_succ _)⟩, fun j r e => ?_, fun j r e => ?_, fun j r e => ?_⟩
  · rw [row_new] at e; rw [hx]
    split at e
    · omega
    · have := h.row j r e; omega
  · rw [fam_new] at e; rw [hx]
    split at e
    · omega
    · have := h.fam j r e; omega
  · rw [mp_new] at e; rw [hx]
    have := h.mp j r e; omega
theorem Std.new {F : FAW} (h : Wf F) (c : List FV) (elem es : Nat) (A B : Nat → Prop) : Std F (F.new c elem es) A B :=
  ⟨fun j r _ e => by rw [row_new, if_neg (by have := h.row j r e; omega)]; exact e, fun j r _ e => by rw [fam_new, if_neg (by have := h.fam j r e; omega)]; exact e, fun j r e => by rw [mp_new]; exact e, Nat.le_succ _⟩
theorem Wf.put {F : FAW} (h : Wf F) (i : Nat) (d : List FV) : Wf (F.put i d) := by
  refine ⟨h.own.put, fun j r e => ?_, fun j r e => h.fam j r e, fun j r e => h.mp j r (by rw [mp_put] at e; exact e)⟩
  rw [row_put] at e
  split at e
  · rename_i hj
    subst hj
    obtain ⟨q, h1, _⟩ := Option.map_eq_some_iff.mp e
    exact h.row _ _ h1
  · exact h.row j r e
/-- A row that grew. -/
def FAW.grown (F : FAW) (fm : Nat) (c : List FV) (elem es : Nat) (ro : Bool) : FAW := ⟨.cell F.x c elem es fm ro F.h, putFL fm true c.length F.fs, F.x + 1⟩
theorem row_grown (F : FAW) (fm : Nat) (c : List FV) (elem es : Nat) (ro : Bool) (j : Nat) : (F.grown fm c elem es ro).row j = if j = F.x then some (c, elem, es, fm, ro) else F.row j := rfl
theorem fam_grown (F : FAW) (fm : Nat) (c : List FV) (elem es : Nat) (ro : Bool) (j : Nat) : (F.grown fm c elem es ro).fam j = if j = fm then (F.fam fm).map (fun _ => (true, c.length)) else F.fam j := getFm_put fm true c.length j F.fs
theorem mp_grown (F : FAW) (fm : Nat) (c : List FV) (elem es : Nat) (ro : Bool) (j : Nat) : (F.grown fm c elem es ro).mp j = F.mp j := rfl

/-- A slice that was built by append alone: its cells; m: its family. -/
def SlB (F : FAW) (v : FV) (el : Nat) (cs : List FV) (m : Nat) : Prop :=
  (cs = [] ∧ v = .nl) ∨ (cs ≠ [] ∧ ∃ i mu, v = .l i 0 cs.length cs.length ∧ F.row i = some (cs, el, 1, m, false) ∧ F.fam m = some (mu, cs.length))
theorem SlB.fi {F : FAW} {v : FV} {el : Nat} {cs : List FV} {m : Nat} (h : SlB F v el cs m) : Fi v := by
  rcases h with ⟨_, rfl⟩ | ⟨_, i, mu, rfl, _⟩
  · exact Fi.nl
  · exact Fi.l _ _ _ _
theorem SlB.std {F F' : FAW} {v : FV} {el : Nat} {cs : List FV} {m : Nat} (h : SlB F v el cs m) {A B : Nat → Prop} (hs : Std F F' A B) (hA : ∀ i r, F.row i = some (r, el, 1, m, false) → ¬ A i) (hB : cs ≠ [] → ¬ B m) : SlB F' v el cs m := by
  rcases h with h | ⟨h1, i, mu, h2, h3, h4⟩
  · exact .inl h
  · exact .inr ⟨h1, i, mu, h2, hs.row _ _ (hA _ _ h3) h3, hs.fam _ _ (hB h1) h4⟩
theorem rowU_one {w : FV} (hw : Fi w) (g : List FV → RU) : rowU [w] 1 g = g [w] := by
  show eX w (g [w]) = _
  rw [hw.1]
theorem rowU_all : ∀ {l : List FV} (g : List FV → RU), (∀ w ∈ l, Fi w) → rowU l l.length g = g l
  | [], g, _ => rfl
  | a :: l, g, h => by
    show eX a (rowU l l.length fun r => g (a :: r)) = _
    rw [(h a (by simp)).1, rowU_all _ (fun w hw => h w (by simp [hw]))]
theorem allU_all : ∀ {l : List FV} (r : RU), (∀ w ∈ l, Fi w) → allU l r = r
  | [], r, _ => rfl
  | a :: l, r, h => by
    show eC a (allU l r) = _
    rw [(h a (by simp)).2.1, allU_all _ (fun w hw => h w (by simp [hw]))]
theorem fitU_le {n bytes : Nat} (h1 : (2 * n + 192) * bytes ≤ 281474976710656) (h2 : n ≤ 140737488355328) : fitU n bytes = true := by
  unfold fitU
  rw [an_eq, bleU, bleU, decide_eq_true (show Nat.mul (Nat.add (Nat.mul 2 n) 192) bytes ≤ _ from h1), decide_eq_true h2]; rfl
theorem srcU_one {F : FAW} {w : FV} (hw : Fi w) {j e s m o} (hj : F.row j = some ([w], e, s, m, o)) (g : Nat → List FV → RU) : srcU F 1 (.l j 0 1 1) g = g 1 [w] := by
  have : srcU F 1 (.l j 0 1 1) g = findH F.h j fun c _ _ _ _ => rowAtU c 0 1 fun m => g 1 m := rfl
  rw [this, findH_get _ hj]
  exact rowU_one hw _
theorem allU_one {w : FV} (hw : Fi w) (r : RU) : allU [w] r = r := hw.2.1 r
/-- One more is put behind a slice. -/
theorem app_one {F : FAW} (hF : Wf F) {v : FV} {el : Nat} {cs : List FV} {m : Nat} (h : SlB F v el cs m) (hcs : ∀ c ∈ cs, Fi c) {w : FV} (hw : Fi w) {j e s q o} (hj : F.row j = some ([w], e, s, q, o)) {bytes : Nat}
    (hb : (2 * (cs.length + 1) + 192) * bytes ≤ 281474976710656) (hl : cs.length + 1 ≤ 140737488355328) :
    ∃ v' F' m', (∀ f : KU, uApp el 1 bytes v (.l j 0 1 1) F f = f v' F') ∧ SlB F' v' el (cs ++ [w]) m' ∧ Std F F' (fun _ => False) (fun q => q = m ∧ cs ≠ []) ∧ Wf F' ∧ ((m' = m ∧ cs ≠ []) ∨ F.x ≤ m') := by
  rcases h with ⟨rfl, rfl⟩ | ⟨hne, i, mu, rfl, hi, hm⟩
  · refine ⟨.l F.x 0 1 1, F.new [w] el 1, F.x, fun f => ?_, .inr ⟨by simp, F.x, false, rfl, by rw [row_new, if_pos rfl]; rfl, by rw [fam_new, if_pos rfl]; rfl⟩, Std.new hF _ _ _ _ _, hF.new _ _ _, .inr (Nat.le_refl _)⟩
    unfold uApp
    rw [srcU_one hw hj, allU_one hw]
    show appNU el 1 bytes 1 [w] F f = _
    have : appNU el 1 bytes 1 [w] F f = cn (fitU 1 bytes) (newU [w] el 1 F fun i F' => f (.l i 0 1 1) F') .no := rfl
    rw [this, fitU_le (n := 1) (bytes := bytes) hb (by omega), cn_true, newU_new]
  · refine ⟨.l F.x 0 (cs.length + 1) (cs.length + 1), F.grown m (cs ++ [w]) el 1 false, m, fun f => ?_, .inr ⟨by simp, F.x, true, by simp, by rw [row_grown, if_pos rfl], by rw [fam_grown, if_pos rfl, hm]; rfl⟩, ?_, ?_, .inl ⟨rfl, hne⟩⟩
    · unfold uApp
      rw [srcU_one hw hj, allU_one hw]
      show appSU el 1 bytes i 0 cs.length cs.length 1 [w] F f = _
      have e1 : appSU el 1 bytes i 0 cs.length cs.length 1 [w] F f = findH F.h i fun cc el' es fm ro => cn (an (nt ro) (an (Nat.beq es 1) (Nat.beq el' el))) (Bool.rec (motive := fun _ => RU) (appGrU 1 bytes 0 cs.length 1 cc [w] el fm F f) (appInU 1 i 0 cs.length cs.length 1 cc [w] fm F f) (Nat.ble (Nat.add cs.length 1) cs.length)) .no := rfl
      rw [e1, findH_get _ hi, an_eq, an_eq, nt_eq, beqU, beqU, bleU]
      simp only [decide_true, Bool.not_false, Bool.and_self, cn_true]
      rw [decide_eq_false (show ¬ Nat.add cs.length 1 ≤ cs.length by show ¬ cs.length + 1 ≤ cs.length; omega)]
      show appGrU 1 bytes 0 cs.length 1 cs [w] el m F f = _
      have e2 : appGrU 1 bytes 0 cs.length 1 cs [w] el m F f = fN (Nat.mul cs.length 1) fun k => rowU cs k fun mm => cn (fitU (Nat.add cs.length 1) bytes) (growU F m 0 k mm [w] el 1 false fun x F' => fN (Nat.add cs.length 1) fun n => f (.l x 0 n n) F') .no := by
        unfold appGrU
        congr 1
        funext k
        unfold rowAtU
        rw [dropU_le _ (by omega)]; rfl
      have e3 : Nat.mul cs.length 1 = cs.length := Nat.mul_one _
      rw [e2, fN_eq, e3, rowU_all _ hcs, fitU_le hb hl, cn_true]
      unfold growU
      rw [catU_eq, fN_eq, lenU_eq, findF_get _ hm, ltN_eq]
      have e4 : Nat.add 0 cs.length = cs.length := Nat.zero_add _
      rw [e4, decide_eq_false (by omega)]
      show growK F m (cs ++ [w]) el 1 false (cs ++ [w]).length _ = _
      unfold growK
      rw [fN_eq, setF_get _ _ _ _ hm]
      simp only [fN_eq]
      rfl
    · refine ⟨fun j r _ e => by rw [row_grown, if_neg (by have := hF.row j r e; omega)]; exact e, fun j r hj e => ?_, fun j r e => by rw [mp_grown]; exact e, Nat.le_succ _⟩
      rw [fam_grown, if_neg (fun q => hj ⟨q, hne⟩)]; exact e
    · have hx : (F.grown m (cs ++ [w]) el 1 false).x = F.x + 1 := rfl
      refine ⟨⟨Nat.lt_succ_of_lt (hF.fam _ _ hm), hF.own.mono (Nat.le_succ _)⟩, fun j r e => ?_, fun j r e => ?_, fun j r e => ?_⟩
      · rw [row_grown] at e; rw [hx]
        split at e
        · omega
        · have := hF.row j r e; omega
      · rw [fam_grown] at e; rw [hx]
        split at e
        · rename_i q; subst q; have := hF.fam _ _ hm; omega
        · have := hF.fam j r e; omega
      · rw [mp_grown] at e; rw [hx]
        have := hF.mp j r e; omega
theorem SlB.lt {F : FAW} {v : FV} {el : Nat} {cs : List FV} {m : Nat} (h : SlB F v el cs m) (hF : Wf F) (hne : cs ≠ []) : m < F.x := by
  rcases h with ⟨h1, _⟩ | ⟨_, i, mu, _, _, h4⟩
  · exact absurd h1 hne
  · exact hF.fam _ _ h4
end Go.Proofs.Ythclmjelknibhaa.Ev
/- More steps of texts. -/
namespace Go.Proofs.Ythclmjelknibhaa.Ev
open Go Go.RowKit
set_option linter.unusedVariables false
set_option linter.constructorNameAsVariable false
set_option linter.unusedSimpArgs false
set_option linter.unusedSectionVars false

theorem beqLU_refl : ∀ l : List Nat, beqLU l l = true
  | [] => rfl
  | x :: l => by
    have : beqLU (x :: l) (x :: l) = an (Nat.beq (Nat.mod x 256) (Nat.mod x 256)) (beqLU l l) := rfl
    rw [this, beqLU_refl l, beqU, decide_eq_true rfl]; rfl
theorem veqU_n (m : Nat) (r : RU) : veqU (.n m) (.n m) r = r := by
  show cn (Nat.beq m m) r .no = r
  rw [beqU, decide_eq_true rfl, cn_true]
theorem veqU_b (m : Nat) (r : RU) : veqU (.b m) (.b m) r = r := by
  show cn (Nat.beq m m) r .no = r
  rw [beqU, decide_eq_true rfl, cn_true]
theorem veqU_s (m : List Nat) (r : RU) : veqU (.s m) (.s m) r = r := by
  show cn (beqLU m m) r .no = r
  rw [beqLU_refl, cn_true]
theorem veqU_l (i o n c : Nat) (r : RU) : veqU (.l i o n c) (.l i o n c) r = r := by
  show cn (veq (toV (.l i o n c)) (toV (.l i o n c))) r .no = r
  have : veq (toV (.l i o n c)) (toV (.l i o n c)) = true := by simp [toV, veq, veq1, aeq]
  rw [this, cn_true]
theorem veqU_nl (r : RU) : veqU .nl .nl r = r := by
  show cn (veq (toV .nl) (toV .nl)) r .no = r
  have : veq (toV .nl) (toV .nl) = true := by simp [toV, veq, veq1, aeq]
  rw [this, cn_true]
theorem veqU_p (i o : Nat) (r : RU) : veqU (.p i o) (.p i o) r = r := by
  show cn (veq (toV (.p i o)) (toV (.p i o))) r .no = r
  have : veq (toV (.p i o)) (toV (.p i o)) = true := by simp [toV, veq, veq1, aeq]
  rw [this, cn_true]
theorem veqU_sl {F : FAW} {v : FV} {el : Nat} {cs : List FV} {m : Nat} (h : SlB F v el cs m) (r : RU) : veqU v v r = r := by
  rcases h with ⟨_, rfl⟩ | ⟨_, i, mu, rfl, _⟩
  · exact veqU_nl r
  · exact veqU_l _ _ _ _ r
theorem uMM_nn (a b : Nat) (F : FAW) (f : KU) : uMM true [.n a, .n b] F f = f (.n (max a b)) F := by
  unfold uMM
  have : mmV true (toVs [.n a, .n b]) = some (.int .i64 (.ofNat (max a b))) := by
    simp only [toVs, toV, mmV, List.foldlM_cons, List.foldlM_nil, mstep]
    by_cases h : a ≤ b
    · simp [h]; omega
    · simp [h]; omega
  rw [this]; rfl
section
variable (F : FAW) (f : KU)
theorem uExt_0 (a : FV) (l : List FV) : uExt 0 (.u (a :: l)) F f = f a F := rfl
theorem uExt_1 (a b : FV) (l : List FV) : uExt 1 (.u (a :: b :: l)) F f = f b F := rfl
theorem uExt_2 (a b c : FV) (l : List FV) : uExt 2 (.u (a :: b :: c :: l)) F f = f c F := rfl
theorem uExt_3 (a b c d : FV) (l : List FV) : uExt 3 (.u (a :: b :: c :: d :: l)) F f = f d F := rfl
theorem uExt_4 (a b c d e : FV) (l : List FV) : uExt 4 (.u (a :: b :: c :: d :: e :: l)) F f = f e F := rfl
/-- An element's place. -/
theorem uIad_l {size i o n c k : Nat} (h : k < n) : uIad size (.l i o n c) (.n k) F f = f (.p i (o + k * size)) F := by
  have e : uIad size (.l i o n c) (.n k) F f = cn (ltN k n) (fN (Nat.add o (Nat.mul k size)) fun o => f (.p i o) F) .no := rfl
  rw [e, ltN_eq, decide_eq_true h, cn_true, fN_eq]
  rfl
theorem uIad_lb {size i o n c k : Nat} (h : k < n) : uIad size (.l i o n c) (.b k) F f = f (.p i (o + k * size)) F := by
  have e : uIad size (.l i o n c) (.b k) F f = cn (ltN k n) (fN (Nat.add o (Nat.mul k size)) fun o => f (.p i o) F) .no := rfl
  rw [e, ltN_eq, decide_eq_true h, cn_true, fN_eq]
  rfl
end
theorem SlB.len {F : FAW} {v : FV} {el : Nat} {cs : List FV} {m : Nat} (h : SlB F v el cs m) (G : FAW) (f : KU) : uLen false v G f = f (.n cs.length) G := by
  rcases h with ⟨rfl, rfl⟩ | ⟨_, i, mu, rfl, _⟩ <;> rfl
/-- An element of a slice that was built by append. -/
theorem SlB.get {F : FAW} {v : FV} {el : Nat} {cs : List FV} {m : Nat} (h : SlB F v el cs m) {k : Nat} {w : FV} (hk : cs[k]? = some w) (hw : Fi w) (f : KU) : (uIad 1 v (.n k) F fun v0 S => uLd none v0 S f) = f w F := by
  obtain ⟨hlt, _⟩ := List.getElem?_eq_some_iff.mp hk
  rcases h with ⟨rfl, rfl⟩ | ⟨_, i, mu, rfl, hr, _⟩
  · simp at hk
  · rw [uIad_l _ _ hlt]
    exact uLd_row f hr (by rw [Nat.zero_add, Nat.mul_one]; exact hk) hw
theorem uBox_a (elem es : Nat) (cs : List FV) (F : FAW) (f : KU) : uBox elem es (.a cs) F f = f (.p F.x 0) (F.new cs elem es) := by
  have e : uBox elem es (.a cs) F f = newU cs elem es F fun i F' => f (.p i 0) F' := rfl
  rw [e, newU_new]
theorem uBox_fi (elem es : Nat) {w : FV} (hw : Fi w) (F : FAW) (f : KU) : uBox elem es w F f = f (.p F.x 0) (F.new [w] elem es) := by
  unfold uBox
  rw [hw.1, hw.2.2, newU_new]
end Go.Proofs.Ythclmjelknibhaa.Ev
