/- The functions together, each told by a text of its own; what is not reached is forgotten. -/
import Derived.Test.YtbngpadibllogaaGreatDoorEvG5
import Derived.Test.YtbngpadibllogaaGreatDoorEv32
namespace Go.Proofs.YtbngpadibllogaaGreatDoor.Ev
open Go Go.RowKit
set_option linter.unusedVariables false
set_option linter.unusedSimpArgs false
set_option linter.unusedSectionVars false

def kVal (v : Value) (S : AW) (f : KF) : R := f v S
abbrev Fn := Callee → Nat → List Value → AW → R
/-- What a text says of a function, the function does. -/
def OkF (E : FuncId → Option XFunc) (X : Callee) (f : FuncId) (g : Fn) : Prop :=
  ∀ C n args S x, g C n args S = some x → (∃ xf, E f = some xf ∧ evXF0 C n xf args S = some x) ∨ (E f = none ∧ X f args S = some x)
theorem okF_of {V : Type} {E : FuncId → Option XFunc} {X : Callee} {f : FuncId} {g : Fn} {T : FT V} {xf : XFunc} (hE : E f = some xf) (hK : T.K = xf.K) (hr : (xf.results.all fun r => xf.K.contains r.1) = true) (h : g = fun C n args S => evG C T n xf args S) : OkF E X f g := by
  intro C n args S x hx
  rw [h] at hx
  exact .inl ⟨xf, hE, evG_inv hK hr hx⟩
theorem okF_ext {E : FuncId → Option XFunc} {X : Callee} {f : FuncId} {g : Fn} (hE : E f = none) (h : g = fun C n args S => X f args S) : OkF E X f g := by
  intro C n args S x hx
  rw [h] at hx
  exact .inr ⟨hE, hx⟩
inductive DT where
  | leaf (f : Nat) (g : Fn) (b : Bool)
  | node (k : Nat) (l r : DT)
def DT.get : DT → Nat → (Fn → Bool → R) → R
  | .leaf f g b, i, k => cond (Nat.beq i f) (k g b) none
  | .node m l r, i, k => cond (Nat.blt i m) (l.get i k) (r.get i k)
inductive DT.Ok (E : FuncId → Option XFunc) (X : Callee) : DT → Prop
  | leaf {f g b} (h : OkF E X f g) : DT.Ok E X (.leaf f g b)
  | node {k l r} (hl : DT.Ok E X l) (hr : DT.Ok E X r) : DT.Ok E X (.node k l r)
theorem DT.get_inv {E : FuncId → Option XFunc} {X : Callee} {D : DT} (h : DT.Ok E X D) : ∀ {i : Nat} {k : Fn → Bool → R} {x : Value × AW}, D.get i k = some x → ∃ g b, OkF E X i g ∧ k g b = some x := by
  induction h with
  | leaf h =>
    rename_i f g b
    intro i k x hx
    rw [DT.get, beqN_eq] at hx
    by_cases e : i = f
    · simp only [e, decide_true, cond_true] at hx
      exact ⟨g, b, e ▸ h, hx⟩
    · simp only [e, decide_false, cond_false] at hx
      cases hx
  | node hl hr il ir =>
    intro i k x hx
    rw [DT.get] at hx
    rename_i m _ _
    cases e : Nat.blt i m with
    | true => rw [e] at hx; exact il hx
    | false => rw [e] at hx; exact ir hx

/-- Memory of which some rows are forgotten. -/
structure Sub (S S' : AW) : Prop where
  next : S'.next = S.next
  obj : ∀ i o, S'.obj i = some o → S.obj i = some o ∧ ∀ r, o = .cells r → S'.fam r.fam = S.fam r.fam
theorem Sub.refl (S : AW) : Sub S S := ⟨rfl, fun i o h => ⟨h, fun r _ => rfl⟩⟩
theorem Sub.raw {S S' : AW} (h : Sub S S') {i : Nat} {r : Raw} (hr : S'.raw i = some r) : S.raw i = some r ∧ S'.fam r.fam = S.fam r.fam := by
  obtain ⟨h1, h2⟩ := AW.raw_some hr
  obtain ⟨k1, k2⟩ := h.obj i _ h1
  have k3 := k2 r rfl
  rw [k3] at h2
  exact ⟨AW.raw_of k1 h2, k3⟩
theorem Sub.mapv {S S' : AW} (h : Sub S S') {i : Nat} {es : List (Value × Value)} (hm : S'.mapv i = some es) : S.mapv i = some es := AW.mapv_of (h.obj i _ (AW.mapv_some hm)).1
theorem RelW.sub {W0 : World} {ρ : Ren} {S S' : AW} {w : World} (h : RelW W0 ρ S w) (hs : Sub S S') : RelW W0 ρ S' w := by
  refine ⟨h.below, by rw [hs.next]; exact h.fresh, fun i o ho => by rw [hs.next]; exact h.objLt i o (hs.obj i o ho).1, fun i r ho => by rw [hs.next]; exact h.famLt i r (hs.obj i _ ho).1, fun i r ho => ?_, h.blk, fun i q r hq hr => h.cells i q r hq (hs.raw hr).1, ?_, fun i r hr hro => ?_, fun i q es hq hm => h.maps i q es hq (hs.mapv hm), fun i j q q' es fs hij hq hq' hm hm' => h.mapsApart i j q q' es fs hij hq hq' (hs.mapv hm) (hs.mapv hm')⟩
  · rw [(hs.obj i _ ho).2 r rfl]; exact h.genLe i r (hs.obj i _ ho).1
  · intro i j q q' r s hij hq hq' hr hs' hro hso hb
    obtain ⟨a1, a2, a3⟩ := h.apart i j q q' r s hij hq hq' (hs.raw hr).1 (hs.raw hs').1 hro hso hb
    exact ⟨a1, by rw [(hs.raw hr).2]; exact a2, a3⟩
  · rw [(hs.raw hr).2]; exact h.ext i r (hs.raw hr).1 hro

/-- The rows that were made behind a count are left out. -/
def dropC {α : Type} : List (Nat × α) → Nat → (List (Nat × α) → R) → R
  | [], _, f => f []
  | p :: l, n, f => cond (Nat.blt p.1 n) (f (p :: l)) (dropC l n f)
def hdLt {α : Type} (l : List (Nat × α)) (n : Nat) : Bool :=
  match l with
  | [] => true
  | p :: _ => Nat.blt p.1 n
theorem dropC_inv {α : Type} : ∀ {l : List (Nat × α)} {n : Nat} {f : List (Nat × α) → R} {x : Value × AW}, dropC l n f = some x → ∃ l', f l' = some x ∧ hdLt l' n = true ∧ ∀ i, i < n → look l' i = look l i
  | [], n, f, x, h => ⟨[], h, rfl, fun i hi => rfl⟩
  | p :: l, n, f, x, h => by
    rw [dropC] at h
    cases e : Nat.blt p.1 n with
    | true =>
      rw [e, cond_true] at h
      exact ⟨p :: l, h, e, fun i hi => rfl⟩
    | false =>
      rw [e, cond_false] at h
      obtain ⟨l', h1, h2, h3⟩ := dropC_inv h
      refine ⟨l', h1, h2, fun i hi => ?_⟩
      rw [h3 i hi]
      obtain ⟨t, o⟩ := p
      simp only [look]
      rw [blt_eq] at e
      have : i ≠ t := by
        intro hit
        simp only [decide_eq_false_iff_not] at e
        omega
      rw [if_neg this]
def famLe (p : Nat × AObj) : Bool :=
  match p.2 with
  | .cells r => Nat.ble r.fam p.1
  | .map _ => true
/-- Rows stand in order, their families are no younger than they. -/
def tidy : List (Nat × AObj) → Bool
  | [] => true
  | p :: l => and (famLe p) (and (hdLt l p.1) (tidy l))
theorem tidy_look : ∀ {l : List (Nat × AObj)} {n : Nat}, tidy l = true → hdLt l n = true → ∀ {i : Nat} {o : AObj}, look l i = some o → i < n ∧ famLe (i, o) = true
  | [], n, _, _, i, o, h => by simp [look] at h
  | (t, u) :: l, n, ht, hn, i, o, h => by
    simp only [tidy, Bool.and_eq_true] at ht
    simp only [hdLt, blt_eq, decide_eq_true_eq] at hn
    simp only [look] at h
    split at h
    · rename_i e
      simp only [Option.some.injEq] at h
      subst h; subst e
      exact ⟨hn, ht.1⟩
    · obtain ⟨h1, h2⟩ := tidy_look ht.2.2 ht.2.1 h
      have : t < n := hn
      exact ⟨by omega, h2⟩
def dropS (S : AW) (n : Nat) (f : AW → R) : R := dropC S.heap n fun h => dropC S.fams n fun fs => cond (tidy h) (f ⟨h, fs, S.next⟩) none
theorem dropS_inv {S : AW} {n : Nat} {f : AW → R} {x : Value × AW} (h : dropS S n f = some x) : ∃ S', Sub S S' ∧ f S' = some x := by
  obtain ⟨h', h1, h2, h3⟩ := dropC_inv h
  obtain ⟨fs, k1, k2, k3⟩ := dropC_inv h1
  cases e : tidy h' with
  | false => rw [e] at k1; cases k1
  | true =>
    rw [e, cond_true] at k1
    refine ⟨⟨h', fs, S.next⟩, ⟨rfl, fun i o ho => ?_⟩, k1⟩
    obtain ⟨q1, q2⟩ := tidy_look e h2 (show look h' i = some o from ho)
    refine ⟨(h3 i q1).symm.trans ho, fun r hr => ?_⟩
    subst hr
    have q2 := Nat.le_of_ble_eq_true q2
    unfold AW.fam
    rw [k3 r.fam (by omega)]
def idLt (n : Nat) : Value → Bool
  | .pointer (some a) => Nat.blt a.block n
  | .slice (some a) _ _ => Nat.blt a.block n
  | .map (some i) => Nat.blt i n
  | .func .. => false
  | .agg _ => false
  | _ => true
def idsLt (n : Nat) : List Value → Bool
  | [] => true
  | v :: l => cond (idLt n v) (idsLt n l) false
def idLt1 (n : Nat) : Value → Bool
  | .agg cs => idsLt n cs.toList
  | v => idLt n v
def idsLt1 (n : Nat) : List Value → Bool
  | [] => true
  | v :: l => cond (idLt1 n v) (idsLt1 n l) false
def idLt2 (n : Nat) : Value → Bool
  | .tuple cs => idsLt1 n cs.toList
  | v => idLt1 n v
def gcR2 (b : Bool) (n : Nat) (v : Value) (S : AW) : R :=
  cond (and b (not (Nat.beq S.next n))) (cond (idLt2 n v) (dropS S n fun S' => some (v, S')) (some (v, S))) (some (v, S))
def gcK (b : Bool) (n0 : Nat) (o : R) : R := Option.casesOn o none fun p => Prod.casesOn p fun v S => gcR2 b n0 v S
theorem gcK_inv {b : Bool} {n0 : Nat} {o : R} {x : Value × AW} (h : gcK b n0 o = some x) : ∃ S, o = some (x.1, S) ∧ Sub S x.2 := by
  cases o with
  | none => cases h
  | some p =>
    obtain ⟨v, S⟩ := p
    have h : gcR2 b n0 v S = some x := h
    have hs : some (v, S) = some x → ∃ S1, some (v, S) = some (x.1, S1) ∧ Sub S1 x.2 := by
      intro h
      simp only [Option.some.injEq] at h
      subst h
      exact ⟨S, rfl, Sub.refl S⟩
    unfold gcR2 at h
    cases e1 : (and b (not (Nat.beq S.next n0))) with
    | false => rw [e1] at h; exact hs h
    | true =>
      rw [e1, cond_true] at h
      cases e2 : idLt2 n0 v with
      | false => rw [e2] at h; exact hs h
      | true =>
        rw [e2, cond_true] at h
        obtain ⟨S', h1, h2⟩ := dropS_inv h
        simp only [Option.some.injEq] at h2
        subst h2
        exact ⟨S, rfl, h1⟩

/-- The functions, to a depth. -/
def clG (D : DT) : Nat → Callee
  | 0 => fun _ _ _ => none
  | n + 1 => fun f args S => D.get f fun g b => gcK b S.next (g (clG D n) n args S)
theorem clG_ok {P : Program} (hmx : P.follows .mixedOrders = true) {E : FuncId → Option XFunc} {X : Callee} (hE : ∀ f xf, E f = some xf → IsX P f xf) (hX : COk P X) {D : DT} (hD : DT.Ok E X D) : ∀ n, COk P (clG D n)
  | 0 => fun W0 ρ S w f args args' v S' _ _ h => by simp [clG] at h
  | n + 1 => fun W0 ρ S w f args args' v S' hw ha h => by
    simp only [clG] at h
    obtain ⟨g, b, hg, h⟩ := DT.get_inv hD h
    obtain ⟨S1, h1, hk⟩ := gcK_inv h
    have hnext : S'.next = S1.next := hk.next
    have hrel : ∀ {ρ' : Ren} {w' : World}, RelW W0 ρ' S1 w' → RelW W0 ρ' S' w' := fun hr => hr.sub hk
    rcases hg _ _ _ _ _ h1 with ⟨xf, hf, h2⟩ | ⟨hf, h2⟩
    · obtain ⟨ef, e1, e2⟩ := (hE f xf hf).inv
      obtain ⟨q1, q2⟩ := fn_ok hmx (clG_ok hmx hE hX hD n) n e1 hw ha (XF_ok0 e2 h2)
      refine .inl ⟨q1, q2.mono fun e w' hq => ?_⟩
      obtain ⟨ρ', v', a1, a2, a3, a4⟩ := hq
      exact ⟨ρ', v', by rw [hnext]; exact a1, a2, a3, hrel a4⟩
    · rcases hX W0 ρ S w f args args' v S1 hw ha h2 with ⟨q1, q2⟩ | ⟨ρ', v', w', a1, a2, a3, a4⟩
      · refine .inl ⟨q1, q2.mono fun e w' hq => ?_⟩
        obtain ⟨ρ', v', a1, a2, a3, a4⟩ := hq
        exact ⟨ρ', v', by rw [hnext]; exact a1, a2, a3, hrel a4⟩
      · exact .inr ⟨ρ', v', w', by rw [hnext]; exact a1, a2, a3, hrel a4⟩
/-- A law that our machine answers with true. -/
theorem mainG_ok {P : Program} (hmx : P.follows .mixedOrders = true) {E : FuncId → Option XFunc} {X : Callee} (hE : ∀ f xf, E f = some xf → IsX P f xf) (hX : COk P X) {D : DT} (hD : DT.Ok E X D) {n : Nat} {f : FuncId} {xf : XFunc} (hf : E f = some xf)
    {W : World} {ρ : Ren} {S : AW} {args : List Value} {args' : Array Value} (hw : RelW W ρ S W) (ha : ARel ρ args.toArray args') (h : yes (clG D n f args S) = true) :
    Calls P f args' W fun e W' => e = .returned (.bool true) ∧ Below W.heap.size W W' := by
  have h0 : ∃ S', clG D n f args S = some (.bool true, S') := by
    cases hx : clG D n f args S with
    | none => rw [hx] at h; cases h
    | some r =>
      obtain ⟨v, S'⟩ := r
      rw [hx] at h
      cases v with
      | bool b =>
        have h : b = true := h
        subst h
        exact ⟨S', rfl⟩
      | _ => cases h
  obtain ⟨S', h⟩ := h0
  rcases clG_ok hmx hE hX hD n W ρ S W f args args' _ S' hw ha h with ⟨_, q2⟩ | ⟨ρ', v', w', a1, a2, a3, a4⟩
  · refine q2.mono fun e W' hq => ?_
    obtain ⟨ρ', v', _, rfl, q1, q2⟩ := hq
    exact ⟨by rw [q1.bool_inv], q2.below⟩
  · cases n with
    | zero => simp [clG] at h
    | succ n =>
      simp only [clG] at h
      obtain ⟨g, b, hg, h⟩ := DT.get_inv hD h
      obtain ⟨S1, h1, hk⟩ := gcK_inv h
      rcases hg _ _ _ _ _ h1 with ⟨xf, hf, h2⟩ | ⟨hf2, _⟩
      · obtain ⟨ef, e1, e2⟩ := (hE f xf hf).inv
        refine ((fn_ok hmx (clG_ok hmx hE hX hD n) n e1 hw ha (XF_ok0 e2 h2)).2).mono fun e W' hq => ?_
        obtain ⟨ρ', v', _, rfl, q1, q2⟩ := hq
        exact ⟨by rw [q1.bool_inv], q2.below⟩
      · rw [hf] at hf2; cases hf2
end Go.Proofs.YtbngpadibllogaaGreatDoor.Ev
