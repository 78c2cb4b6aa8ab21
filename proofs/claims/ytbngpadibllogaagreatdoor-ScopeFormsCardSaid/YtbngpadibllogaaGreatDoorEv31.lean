/- All our functions together: a callee that needs no count of steps. -/
import Derived.Test.YtbngpadibllogaaGreatDoorEv30
namespace Go.Proofs.YtbngpadibllogaaGreatDoor.Ev
open Go Go.RowKit
set_option linter.unusedVariables false
set_option linter.unusedSimpArgs false
set_option linter.unusedSectionVars false

def CLe (C C' : Callee) : Prop := ∀ f args S r, C f args S = some r → C' f args S = some r

section
variable {C C' : Callee} (hC : CLe C C')
include hC
theorem rt_mono : ∀ (rt : RT) (l : List (Nat × Value)) (sv : List (Nat × AW)) (S : AW) (G : AF) (r : AF × AW), evRT C rt l sv S G = some r → evRT C' rt l sv S G = some r
  | .done as, l, sv, S, G, r, h => h
  | .step x e k, l, sv, S, G, r, h => by
    simp only [evRT] at h ⊢
    split at h
    · rename_i v S' hr
      exact rt_mono k _ _ _ _ r h
    · rename_i f args hr
      split at h
      · rename_i v S' hc
        simp only [hC _ _ _ _ hc]
        exact rt_mono k _ _ _ _ r h
      · cases h
    · cases h
  | .save x k, l, sv, S, G, r, h => by
    simp only [evRT] at h ⊢
    exact rt_mono k _ _ _ _ r h
  | .test o t f, l, sv, S, G, r, h => by
    simp only [evRT] at h ⊢
    split at h
    · exact rt_mono t _ _ _ _ r h
    · exact rt_mono f _ _ _ _ r h
    · cases h
  | .same e q k, l, sv, S, G, r, h => by
    simp only [evRT] at h ⊢
    split at h
    · split at h
      · rename_i hv
        rw [if_pos hv]
        exact rt_mono k _ _ _ _ r h
      · cases h
    · cases h
  | .row x q k, l, sv, S, G, r, h => by
    simp only [evRT] at h ⊢
    split at h
    · split at h
      · rename_i hv
        rw [if_pos hv]
        exact rt_mono k _ _ _ _ r h
      · cases h
    · cases h

omit hC in
theorem iter_mono {b b' : AF → AW → Out} (hb : ∀ F S r, b F S = some r → b' F S = some r) : ∀ (k k' : Nat) (F : AF) (S : AW) (r : EX × AF × AW), k ≤ k' → iter b k F S = some r → iter b' k' F S = some r
  | 0, k', F, S, r, hk, h => by simp [iter] at h
  | k + 1, 0, F, S, r, hk, h => by omega
  | k + 1, k' + 1, F, S, r, hk, h => by
    simp only [iter] at h ⊢
    cases hx : b F S with
    | none => rw [hx] at h; cases h
    | some q =>
      rw [hx] at h
      rw [hb F S q hx]
      obtain ⟨x, F', S'⟩ := q
      cases x with
      | normal => exact iter_mono hb k k' F' S' r (by omega) h
      | exit id => exact h
      | ret => exact h

theorem x_mono {K : List Nat} {n n' : Nat} (hn : n ≤ n') : ∀ (xc : XCode) (F : AF) (S : AW) (r : EX × AF × AW), evX C K n xc F S = some r → evX C' K n' xc F S = some r
  | .skip, F, S, r, h => h
  | .rt t, F, S, r, h => by
    simp only [evX] at h ⊢
    cases hx : evRT C t (K.map fun t => (t, F.get t)) [] S F with
    | none => rw [hx] at h; cases h
    | some q => rw [hx] at h; rw [rt_mono hC t _ _ _ _ q hx]; exact h
  | .seq a b, F, S, r, h => by
    simp only [evX] at h ⊢
    cases hx : evX C K n a F S with
    | none => rw [hx] at h; cases h
    | some q =>
      rw [hx] at h
      rw [x_mono hn a F S q hx]
      obtain ⟨x, F', S'⟩ := q
      cases x with
      | normal => exact x_mono hn b F' S' r h
      | exit id => exact h
      | ret => exact h
  | .cond c a b, F, S, r, h => by
    simp only [evX] at h ⊢
    split at h
    · exact x_mono hn a F S r h
    · exact x_mono hn b F S r h
    · cases h
  | .block id a, F, S, r, h => by
    simp only [evX] at h ⊢
    cases hx : evX C K n a F S with
    | none => rw [hx] at h; cases h
    | some q => rw [hx] at h; rw [x_mono hn a F S q hx]; exact h
  | .loop a, F, S, r, h => by
    simp only [evX] at h ⊢
    exact iter_mono (fun F S r h => x_mono hn a F S r h) n n' F S r hn h
  | .exit id, F, S, r, h => h
  | .ret, F, S, r, h => h

theorem xf_mono {n n' : Nat} (hn : n ≤ n') (xf : XFunc) (args : List Value) (S : AW) (r : Value × AW) (h : evXF C n xf args S = some r) : evXF C' n' xf args S = some r := by
  unfold evXF evXF0 at h ⊢
  cases hx : evX C xf.K n xf.body (xf.enter args) S with
  | none => rw [hx] at h; cases h
  | some q => rw [hx] at h; rw [x_mono hC hn xf.body _ S q hx]; exact h
end

/-- Callees that know more and more, and one that knows what any of them knows. -/
structure Chain (cl : Nat → Callee) (CL : Callee) : Prop where
  mono : ∀ n m, n ≤ m → CLe (cl n) (cl m)
  lim : ∀ f args S r, CL f args S = some r → ∃ n, cl n f args S = some r

section
variable {cl : Nat → Callee} {CL : Callee} (hL : Chain cl CL)
include hL
theorem rt_lim : ∀ (rt : RT) (l : List (Nat × Value)) (sv : List (Nat × AW)) (S : AW) (G : AF) (r : AF × AW), evRT CL rt l sv S G = some r → ∃ m, evRT (cl m) rt l sv S G = some r
  | .done as, l, sv, S, G, r, h => ⟨0, h⟩
  | .step x e k, l, sv, S, G, r, h => by
    simp only [evRT] at h ⊢
    split at h
    · exact rt_lim k _ _ _ _ r h
    · split at h
      · rename_i v S' hc
        obtain ⟨m1, h1⟩ := hL.lim _ _ _ _ hc
        obtain ⟨m2, h2⟩ := rt_lim k _ _ _ _ r h
        refine ⟨max m1 m2, ?_⟩
        simp only [hL.mono m1 (max m1 m2) (Nat.le_max_left _ _) _ _ _ _ h1]
        exact rt_mono (hL.mono m2 (max m1 m2) (Nat.le_max_right _ _)) k _ _ _ _ r h2
      · cases h
    · cases h
  | .save x k, l, sv, S, G, r, h => by
    simp only [evRT] at h ⊢
    exact rt_lim k _ _ _ _ r h
  | .test o t f, l, sv, S, G, r, h => by
    simp only [evRT] at h ⊢
    split at h
    · exact rt_lim t _ _ _ _ r h
    · exact rt_lim f _ _ _ _ r h
    · cases h
  | .same e q k, l, sv, S, G, r, h => by
    simp only [evRT] at h ⊢
    split at h
    · split at h
      · rename_i hv
        simp only [if_pos hv]
        exact rt_lim k _ _ _ _ r h
      · cases h
    · cases h
  | .row x q k, l, sv, S, G, r, h => by
    simp only [evRT] at h ⊢
    split at h
    · split at h
      · rename_i hv
        simp only [if_pos hv]
        exact rt_lim k _ _ _ _ r h
      · cases h
    · cases h

theorem x_lim {K : List Nat} {n : Nat} : ∀ (xc : XCode) (F : AF) (S : AW) (r : EX × AF × AW), evX CL K n xc F S = some r → ∃ m, evX (cl m) K n xc F S = some r
  | .skip, F, S, r, h => ⟨0, h⟩
  | .rt t, F, S, r, h => by
    simp only [evX] at h ⊢
    cases hx : evRT CL t (K.map fun t => (t, F.get t)) [] S F with
    | none => rw [hx] at h; cases h
    | some q =>
      rw [hx] at h
      obtain ⟨m, hm⟩ := rt_lim hL t _ _ _ _ q hx
      exact ⟨m, by rw [hm]; exact h⟩
  | .seq a b, F, S, r, h => by
    simp only [evX] at h ⊢
    cases hx : evX CL K n a F S with
    | none => rw [hx] at h; cases h
    | some q =>
      rw [hx] at h
      obtain ⟨m1, h1⟩ := x_lim a F S q hx
      obtain ⟨x, F', S'⟩ := q
      cases x with
      | normal =>
        obtain ⟨m2, h2⟩ := x_lim b F' S' r h
        refine ⟨max m1 m2, ?_⟩
        rw [x_mono (hL.mono m1 (max m1 m2) (Nat.le_max_left _ _)) (Nat.le_refl n) a F S _ h1]
        exact x_mono (hL.mono m2 (max m1 m2) (Nat.le_max_right _ _)) (Nat.le_refl n) b F' S' r h2
      | exit id => exact ⟨m1, by rw [h1]; exact h⟩
      | ret => exact ⟨m1, by rw [h1]; exact h⟩
  | .cond c a b, F, S, r, h => by
    simp only [evX] at h ⊢
    split at h
    · exact x_lim a F S r h
    · exact x_lim b F S r h
    · cases h
  | .block id a, F, S, r, h => by
    simp only [evX] at h ⊢
    cases hx : evX CL K n a F S with
    | none => rw [hx] at h; cases h
    | some q =>
      rw [hx] at h
      obtain ⟨m, hm⟩ := x_lim a F S q hx
      exact ⟨m, by rw [hm]; exact h⟩
  | .loop a, F, S, r, h => by
    simp only [evX] at h ⊢
    have key : ∀ (k : Nat) (F : AF) (S : AW), iter (evX CL K n a) k F S = some r → ∃ m, iter (evX (cl m) K n a) k F S = some r := by
      intro k
      induction k with
      | zero => intro F S h; simp [iter] at h
      | succ k ih =>
        intro F S h
        simp only [iter] at h ⊢
        cases hx : evX CL K n a F S with
        | none => rw [hx] at h; cases h
        | some q =>
          rw [hx] at h
          obtain ⟨m1, h1⟩ := x_lim a F S q hx
          obtain ⟨x, F', S'⟩ := q
          cases x with
          | normal =>
            obtain ⟨m2, h2⟩ := ih F' S' h
            refine ⟨max m1 m2, ?_⟩
            have hle2 := hL.mono m2 (max m1 m2) (Nat.le_max_right _ _)
            rw [x_mono (hL.mono m1 (max m1 m2) (Nat.le_max_left _ _)) (Nat.le_refl n) a F S _ h1]
            exact iter_mono (fun F S r h => x_mono hle2 (Nat.le_refl n) a F S r h) k k F' S' r (Nat.le_refl k) h2
          | exit id => exact ⟨m1, by rw [h1]; exact h⟩
          | ret => exact ⟨m1, by rw [h1]; exact h⟩
    exact key n F S h
  | .exit id, F, S, r, h => ⟨0, h⟩
  | .ret, F, S, r, h => ⟨0, h⟩

theorem xf_lim {n : Nat} (xf : XFunc) (args : List Value) (S : AW) (r : Value × AW) (h : evXF CL n xf args S = some r) : ∃ m, evXF (cl m) n xf args S = some r := by
  unfold evXF evXF0 at h
  cases hx : evX CL xf.K n xf.body (xf.enter args) S with
  | none => rw [hx] at h; cases h
  | some q =>
    rw [hx] at h
    obtain ⟨m, hm⟩ := x_lim hL xf.body _ S q hx
    exact ⟨m, by unfold evXF evXF0; rw [hm]; exact h⟩
end

/-- The functions, to a depth. -/
def clN (E : FuncId → Option XFunc) (X : Callee) : Nat → Callee
  | 0 => fun _ _ _ => none
  | n + 1 => fun f args S => match E f with
    | some xf => evXF (clN E X n) n xf args S
    | none => X f args S
theorem clN_succ (E : FuncId → Option XFunc) (X : Callee) : ∀ n, CLe (clN E X n) (clN E X (n + 1))
  | 0 => fun f args S r h => by simp [clN] at h
  | n + 1 => fun f args S r h => by
    simp only [clN] at h ⊢
    cases hE : E f with
    | none => rw [hE] at h; exact h
    | some xf => rw [hE] at h; exact xf_mono (clN_succ E X n) (Nat.le_succ n) xf args S r h
theorem clN_mono (E : FuncId → Option XFunc) (X : Callee) (n m : Nat) (h : n ≤ m) : CLe (clN E X n) (clN E X m) := by
  induction h with
  | refl => exact fun _ _ _ _ h => h
  | step _ ih => exact fun f args S r h => clN_succ E X _ f args S r (ih f args S r h)
open Classical in
/-- The functions, as deep as need be. -/
noncomputable def CL (E : FuncId → Option XFunc) (X : Callee) : Callee := fun f args S =>
  if h : ∃ n r, clN E X n f args S = some r then some (Classical.choose (Classical.choose_spec h)) else none
theorem CL_lim (E : FuncId → Option XFunc) (X : Callee) : Chain (clN E X) (CL E X) := by
  refine ⟨clN_mono E X, fun f args S r h => ?_⟩
  unfold CL at h
  split at h
  · rename_i hx
    simp only [Option.some.injEq] at h
    exact ⟨_, h ▸ Classical.choose_spec (Classical.choose_spec hx)⟩
  · cases h
theorem CL_of (E : FuncId → Option XFunc) (X : Callee) {n : Nat} {f : FuncId} {args : List Value} {S : AW} {r : Value × AW} (h : clN E X n f args S = some r) : CL E X f args S = some r := by
  have hx : ∃ n r, clN E X n f args S = some r := ⟨n, r, h⟩
  unfold CL
  rw [dif_pos hx]
  have h1 := Classical.choose_spec (Classical.choose_spec hx)
  have a1 := clN_mono E X _ (max n (Classical.choose hx)) (Nat.le_max_right _ _) _ _ _ _ h1
  have a2 := clN_mono E X n (max n (Classical.choose hx)) (Nat.le_max_left _ _) _ _ _ _ h
  rw [a2] at a1
  simp only [Option.some.injEq] at a1 ⊢
  exact a1.symm
/-- What a function comes to is found by one look at its text. -/
theorem CL_step {E : FuncId → Option XFunc} {X : Callee} {f : FuncId} {xf : XFunc} (hE : E f = some xf) (n : Nat) {args : List Value} {S : AW} {r : Value × AW} (h : evXF (CL E X) n xf args S = some r) : CL E X f args S = some r := by
  obtain ⟨m, hm⟩ := xf_lim (CL_lim E X) xf args S r h
  refine CL_of E X (n := max n m + 1) ?_
  simp only [clN, hE]
  exact xf_mono (clN_mono E X m (max n m) (Nat.le_max_right _ _)) (Nat.le_max_left _ _) xf args S r hm
theorem CL_ext {E : FuncId → Option XFunc} {X : Callee} {f : FuncId} (hE : E f = none) {args : List Value} {S : AW} {r : Value × AW} (h : X f args S = some r) : CL E X f args S = some r :=
  CL_of E X (n := 1) (by simp only [clN, hE]; exact h)

/-- A function's tree form is its program's. -/
def toX (P : Program) (f : FuncId) (K : List Nat) (nx : Nat) : Option XFunc :=
  match compileF P f with
  | some ef => normF K nx ef
  | none => none
def IsX (P : Program) (f : FuncId) (xf : XFunc) : Prop := toX P f xf.K xf.nx = some xf
theorem IsX.inv {P : Program} {f : FuncId} {xf : XFunc} (h : IsX P f xf) : ∃ ef, compileF P f = some ef ∧ normF xf.K xf.nx ef = some xf := by
  unfold IsX toX at h
  split at h
  · rename_i ef hef; exact ⟨ef, hef, h⟩
  · cases h

theorem clN_ok {P : Program} (hmx : P.follows .mixedOrders = true) {E : FuncId → Option XFunc} {X : Callee} (hE : ∀ f xf, E f = some xf → IsX P f xf) (hX : COk P X) : ∀ n, COk P (clN E X n)
  | 0 => fun W0 ρ S w f args args' v S' _ _ h => by simp [clN] at h
  | n + 1 => fun W0 ρ S w f args args' v S' hw ha h => by
    simp only [clN] at h
    cases hf : E f with
    | none => rw [hf] at h; exact hX W0 ρ S w f args args' v S' hw ha h
    | some xf =>
      rw [hf] at h
      obtain ⟨ef, h1, h2⟩ := (hE f xf hf).inv
      obtain ⟨S1, h3, rfl⟩ := XF_ok h2 h
      obtain ⟨q1, q2⟩ := fn_ok hmx (clN_ok hmx hE hX n) n h1 hw ha h3
      refine .inl ⟨q1, q2.mono fun e w' hq => ?_⟩
      obtain ⟨ρ', v', a1, a2, a3, a4⟩ := hq
      exact ⟨ρ', v', by rw [gc_next]; exact a1, a2, a3, a4.gc _ _⟩
theorem CL_ok {P : Program} (hmx : P.follows .mixedOrders = true) {E : FuncId → Option XFunc} {X : Callee} (hE : ∀ f xf, E f = some xf → IsX P f xf) (hX : COk P X) : COk P (CL E X) := by
  intro W0 ρ S w f args args' v S' hw ha h
  obtain ⟨n, hn⟩ := (CL_lim E X).lim f args S (v, S') h
  exact clN_ok hmx hE hX n W0 ρ S w f args args' v S' hw ha hn
end Go.Proofs.YtbngpadibllogaaGreatDoor.Ev
