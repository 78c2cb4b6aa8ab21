/- The table of all functions in the plain form; what is not needed is forgotten; from there to what is asked. -/
import Derived.Test.YthclmjelknibhaaEvU7
namespace Go.Proofs.Ythclmjelknibhaa.Ev
open Go Go.RowKit
set_option linter.unusedVariables false
set_option linter.constructorNameAsVariable false
set_option linter.unusedSimpArgs false
set_option linter.unusedSectionVars false

noncomputable def uVal (v : FV) (F : FAW) (f : KU) : RU := f v F
abbrev Fu := CU → Nat → List FV → FAW → RU
/-- What a text says of a function, the function does. -/
def OkU (E : FuncId → Option XFunc) (X : Callee) (f : FuncId) (g : Fu) : Prop :=
  ∀ U C n args F S v R, CallR U C → UR F S → g U n args F = .ok v R → ∃ S', UR R S' ∧ ((∃ xf, E f = some xf ∧ evXF0 C n xf (toVs args) S = some (toV v, S')) ∨ (E f = none ∧ X f (toVs args) S = some (toV v, S')))
theorem okU_of {V : Type} {E : FuncId → Option XFunc} {X : Callee} {f : FuncId} {g : Fu} {T : FU V} {xf : XFunc} (hE : E f = some xf) (hK : T.K = xf.K) (hr : (xf.results.all fun r => xf.K.contains r.1) = true) (h : g = fun U n args F => evUG U T n xf args F) : OkU E X f g := by
  intro U C n args F S v R hU hF hx
  rw [h] at hx
  obtain ⟨S', h1, h2⟩ := evUG_inv hU hK hr hF hx
  exact ⟨S', h2, .inl ⟨xf, hE, h1⟩⟩
inductive DU where
  | leaf (f : Nat) (g : Fu) (b : Bool)
  | node (k : Nat) (l r : DU)
noncomputable def DU.get (D : DU) (i : Nat) (k : Fu → Bool → RU) : RU :=
  DU.rec (motive := fun _ => RU) (fun f g b => cn (Nat.beq i f) (k g b) .no) (fun m _ _ l r => cn (ltN i m) l r) D
inductive DU.Ok (E : FuncId → Option XFunc) (X : Callee) : DU → Prop
  | leaf {f g b} (h : OkU E X f g) : DU.Ok E X (.leaf f g b)
  | node {k l r} (hl : DU.Ok E X l) (hr : DU.Ok E X r) : DU.Ok E X (.node k l r)
theorem DU.get_inv {E : FuncId → Option XFunc} {X : Callee} {D : DU} (h : DU.Ok E X D) : ∀ {i : Nat} {k : Fu → Bool → RU} {v : FV} {R : FAW}, D.get i k = .ok v R → ∃ g b, OkU E X i g ∧ k g b = .ok v R := by
  induction h with
  | leaf h =>
    rename_i f g b
    intro i k v R hx
    obtain ⟨h1, h2⟩ := cn_inv (show cn (Nat.beq i f) (k g b) .no = .ok v R from hx)
    have := Nat.eq_of_beq_eq_true h1
    subst this
    exact ⟨g, b, h, h2⟩
  | node hl hr il ir =>
    rename_i m l r
    intro i k v R hx
    have hx : cn (ltN i m) (l.get i k) (r.get i k) = .ok v R := hx
    cases e : ltN i m with
    | true => rw [e] at hx; exact il hx
    | false => rw [e] at hx; exact ir hx

-- rows that were made behind a count are left out
noncomputable def dropHU (n : Nat) (h : HL) (f : HL → RU) : RU :=
  HL.rec (motive := fun _ => RU) (f .nil) (fun j c e s m o r ih => cn (ltN j n) (f (.cell j c e s m o r)) ih) (fun j es r ih => cn (ltN j n) (f (.map j es r)) ih) h
noncomputable def dropFU (n : Nat) (l : FL) (f : FL → RU) : RU := FL.rec (motive := fun _ => RU) (f .nil) (fun j m e r ih => cn (ltN j n) (f (.fam j m e r)) ih) l
theorem dropHU_inv {S : AW} {n : Nat} {f : HL → RU} {v : FV} {R : FAW} : ∀ {h : HL}, HOk S h → dropHU n h f = .ok v R → ∃ h', HOk S h' ∧ f h' = .ok v R
  | .nil, _, hf => ⟨.nil, trivial, hf⟩
  | .cell j c e s m o r, h, hf => by
    have hf : cn (ltN j n) (f (.cell j c e s m o r)) (dropHU n r f) = .ok v R := hf
    cases e : ltN j n with
    | true => rw [e] at hf; exact ⟨_, h, hf⟩
    | false => rw [e] at hf; exact dropHU_inv h.2.2.2 hf
  | .map j es r, h, hf => by
    have hf : cn (ltN j n) (f (.map j es r)) (dropHU n r f) = .ok v R := hf
    cases e : ltN j n with
    | true => rw [e] at hf; exact ⟨_, h, hf⟩
    | false => rw [e] at hf; exact dropHU_inv h.2.2.2 hf
theorem dropFU_inv {S : AW} {n : Nat} {f : FL → RU} {v : FV} {R : FAW} : ∀ {h : FL}, FOk S h → dropFU n h f = .ok v R → ∃ h', FOk S h' ∧ f h' = .ok v R
  | .nil, _, hf => ⟨.nil, trivial, hf⟩
  | .fam j m e r, h, hf => by
    have hf : cn (ltN j n) (f (.fam j m e r)) (dropFU n r f) = .ok v R := hf
    cases e : ltN j n with
    | true => rw [e] at hf; exact ⟨_, h, hf⟩
    | false => rw [e] at hf; exact dropFU_inv h.2.2.2 hf
/-- Does a value name no row that was made behind a count? -/
noncomputable def oldU (n : Nat) (v : FV) : Bool :=
  FV.rec (motive_1 := fun _ => Bool) (motive_2 := fun _ => Bool) (fun _ => true) (fun _ => true) (fun _ _ => true) (fun _ => true) (fun _ => true) (fun i _ => ltN i n) (fun i _ _ _ => ltN i n) (fun i => ltN i n) true true true true (fun _ _ _ a c => an a c) (fun _ a => a) (fun _ a => a) true (fun _ => true) true (fun _ _ a l => an a l) v
noncomputable def gcU (b : Bool) (n : Nat) (r : RU) : RU :=
  RU.rec (motive := fun _ => RU) .no (fun v F => FAW.rec (motive := fun _ => RU) (fun h fs x => cn (an b (an (nt (Nat.beq x n)) (oldU n v))) (dropHU n h fun h => dropFU n fs fun fs => .ok v ⟨h, fs, x⟩) (.ok v ⟨h, fs, x⟩)) F) r
theorem gcU_inv {b : Bool} {n : Nat} {r : RU} {v : FV} {R : FAW} (h : gcU b n r = .ok v R) : ∃ F, r = .ok v F ∧ ∀ S, UR F S → UR R S := by
  cases r with
  | no => cases h
  | ok w F =>
    obtain ⟨hp, fs, x⟩ := F
    have h : cn (an b (an (nt (Nat.beq x n)) (oldU n w))) (dropHU n hp fun h => dropFU n fs fun fs => .ok w ⟨h, fs, x⟩) (.ok w ⟨hp, fs, x⟩) = .ok v R := h
    cases e : an b (an (nt (Nat.beq x n)) (oldU n w)) with
    | false =>
      rw [e] at h
      simp only [cn_false, RU.ok.injEq] at h
      obtain ⟨rfl, rfl⟩ := h
      exact ⟨_, rfl, fun S hS => hS⟩
    | true =>
      rw [e, cn_true] at h
      have hv : w = v := by
        have key : ∀ (l : FL) (h' : HL), dropFU n l (fun fs => .ok w ⟨h', fs, x⟩) = .ok v R → w = v := by
          intro l
          induction l with
          | nil => intro h' hx; exact (RU.ok.inj hx).1
          | fam j m e r ih =>
            intro h' hx
            have hx : cn (ltN j n) (.ok w ⟨h', .fam j m e r, x⟩) (dropFU n r fun fs => .ok w ⟨h', fs, x⟩) = .ok v R := hx
            cases e2 : ltN j n with
            | true => rw [e2] at hx; exact (RU.ok.inj hx).1
            | false => rw [e2] at hx; exact ih h' hx
        clear e
        revert h
        generalize hp = l
        induction l with
        | nil => intro hx; exact key _ _ hx
        | cell j c e s m o r ih =>
          intro hx
          have hx : cn (ltN j n) (dropFU n fs fun fs => .ok w ⟨.cell j c e s m o r, fs, x⟩) (dropHU n r fun h => dropFU n fs fun fs => .ok w ⟨h, fs, x⟩) = .ok v R := hx
          cases e2 : ltN j n with
          | true => rw [e2] at hx; exact key _ _ hx
          | false => rw [e2] at hx; exact ih hx
        | map j es r ih =>
          intro hx
          have hx : cn (ltN j n) (dropFU n fs fun fs => .ok w ⟨.map j es r, fs, x⟩) (dropHU n r fun h => dropFU n fs fun fs => .ok w ⟨h, fs, x⟩) = .ok v R := hx
          cases e2 : ltN j n with
          | true => rw [e2] at hx; exact key _ _ hx
          | false => rw [e2] at hx; exact ih hx
      subst hv
      refine ⟨_, rfl, fun S hS => ?_⟩
      obtain ⟨h', a1, a2⟩ := dropHU_inv hS.h h
      obtain ⟨fs', b1, b2⟩ := dropFU_inv hS.f a2
      simp only [RU.ok.injEq, true_and] at b2
      subst b2
      exact ⟨hS.next, a1, b1⟩

/-- The functions, to a depth: in the plain form, and as they are. -/
noncomputable def stepU (D : DU) (U : CU) (n : Nat) : CU := fun f args F => D.get f fun g b => FAW.rec (motive := fun _ => RU) (fun h fs x => gcU b x (g U n args ⟨h, fs, x⟩)) F
noncomputable def clU (D : DU) (n : Nat) : CU := Nat.rec (motive := fun _ => CU) (fun _ _ _ => .no) (fun n U => stepU D U n) n
def clP (E : FuncId → Option XFunc) (X : Callee) : Nat → Callee
  | 0 => fun _ _ _ => none
  | n + 1 => fun f args S => match E f with
    | some xf => evXF0 (clP E X n) n xf args S
    | none => X f args S
theorem clU_rel {E : FuncId → Option XFunc} {X : Callee} {D : DU} (hD : DU.Ok E X D) : ∀ n, CallR (clU D n) (clP E X n)
  | 0 => fun g args F S v R _ h => by cases h
  | n + 1 => fun g args F S v R hF h => by
    have h : D.get g (fun q b => FAW.rec (motive := fun _ => RU) (fun h fs x => gcU b x (q (clU D n) n args ⟨h, fs, x⟩)) F) = .ok v R := h
    obtain ⟨q, b, hq, h⟩ := DU.get_inv hD h
    obtain ⟨hp, fs, x⟩ := F
    obtain ⟨F1, h1, h2⟩ := gcU_inv (show gcU b x (q (clU D n) n args ⟨hp, fs, x⟩) = .ok v R from h)
    obtain ⟨S', h3, h4⟩ := hq _ _ _ _ _ _ _ _ (clU_rel hD n) hF h1
    refine ⟨S', ?_, h2 S' h3⟩
    simp only [clP]
    rcases h4 with ⟨xf, k1, k2⟩ | ⟨k1, k2⟩
    · rw [k1]; exact k2
    · rw [k1]; exact k2
theorem clP_ok {P : Program} (hmx : P.follows .mixedOrders = true) {E : FuncId → Option XFunc} {X : Callee} (hE : ∀ f xf, E f = some xf → IsX P f xf) (hX : COk P X) : ∀ n, COk P (clP E X n)
  | 0 => fun W0 ρ S w f args args' v S' _ _ h => by simp [clP] at h
  | n + 1 => fun W0 ρ S w f args args' v S' hw ha h => by
    simp only [clP] at h
    cases hf : E f with
    | none => rw [hf] at h; exact hX W0 ρ S w f args args' v S' hw ha h
    | some xf =>
      rw [hf] at h
      obtain ⟨ef, h1, h2⟩ := (hE f xf hf).inv
      exact .inl (fn_ok hmx (clP_ok hmx hE hX n) n h1 hw ha (XF_ok0 h2 h))
noncomputable def yesU (r : RU) : Bool := RU.rec (motive := fun _ => Bool) false (fun v _ => FV.rec (motive_1 := fun _ => Bool) (motive_2 := fun _ => Unit) (fun _ => false) (fun _ => false) (fun _ _ => false) (fun b => b) (fun _ => false) (fun _ _ => false) (fun _ _ _ _ => false) (fun _ => false) false false false false (fun _ _ _ _ _ => false) (fun _ _ => false) (fun _ _ => false) false (fun _ => false) () (fun _ _ _ _ => ()) v) r
theorem yesU_inv {r : RU} (h : yesU r = true) : ∃ F, r = .ok (.t true) F := by
  cases r with
  | no => cases h
  | ok v F =>
    cases v with
    | t b =>
      have h : b = true := h
      subst h
      exact ⟨F, rfl⟩
    | _ => cases h
/-- A law that our machine answers with true. -/
theorem mainU_ok {P : Program} (hmx : P.follows .mixedOrders = true) {E : FuncId → Option XFunc} {X : Callee} (hE : ∀ f xf, E f = some xf → IsX P f xf) (hX : COk P X) {D : DU} (hD : DU.Ok E X D) {n : Nat} {f : FuncId} {xf : XFunc} (hf : E f = some xf)
    {W : World} {ρ : Ren} {S : AW} {F : FAW} {args : List FV} {args' : Array Value} (hF : UR F S) (hw : RelW (Fz.of W) ρ S W) (ha : ARel ρ (toVs args).toArray args') (h : yesU (clU D n f args F) = true) :
    Calls P f args' W fun e W' => e = .returned (.bool true) ∧ Below W.heap.size W W' := by
  obtain ⟨R, h⟩ := yesU_inv h
  obtain ⟨S', h1, _⟩ := clU_rel hD n f args F S _ R hF h
  cases n with
  | zero => simp [clP] at h1
  | succ n =>
    simp only [clP, hf, toV] at h1
    obtain ⟨ef, e1, e2⟩ := (hE f xf hf).inv
    refine ((fn_ok hmx (clP_ok hmx hE hX n) n e1 hw ha (XF_ok0 e2 h1)).2).mono fun e W' hq => ?_
    obtain ⟨ρ', v', _, rfl, q1, q2⟩ := hq
    exact ⟨by rw [q1.bool_inv], q2.below.below⟩
theorem UR.empty : UR ⟨.nil, .nil, 0⟩ ⟨[], [], 0, []⟩ := ⟨rfl, trivial, trivial⟩

-- functions that have no text
noncomputable def ixLU (l : List Nat) (c : Nat) : Nat → (FV → RU) → RU := List.rec (motive := fun _ => Nat → (FV → RU) → RU) (fun _ f => f (.i .i64 (-1))) (fun b _ ih n f => cn (Nat.beq (Nat.mod b 256) (Nat.mod c 256)) (f (.n n)) (ih (Nat.succ n) f)) l
noncomputable def cntLU (l : List Nat) (c : Nat) : Nat := List.rec (motive := fun _ => Nat) 0 (fun b _ n => Bool.rec (motive := fun _ => Nat) n (Nat.succ n) (Nat.beq (Nat.mod b 256) (Nat.mod c 256))) l
noncomputable def eB (v : FV) (b : Nat → RU) : RU := eNBS v (fun _ => .no) b (fun _ => .no) .no
theorem eB_inv {w : FV} {b : Nat → RU} {v : FV} {R : FAW} (h : eB w b = .ok v R) : ∃ m, w = .b m ∧ b m = .ok v R := by
  cases w <;> first
    | exact ⟨_, rfl, h⟩
    | cases h
noncomputable def xTwo (args : List FV) (f : List Nat → Nat → RU) : RU :=
  List.rec (motive := fun _ => RU) .no (fun a l _ => List.rec (motive := fun _ => RU) .no (fun b r _ => List.rec (motive := fun _ => RU) (eS a fun s => eB b fun c => f s c) (fun _ _ _ => .no) r) l) args
theorem xTwo_inv {args : List FV} {f : List Nat → Nat → RU} {v : FV} {R : FAW} (h : xTwo args f = .ok v R) : ∃ s c, args = [.s s, .b c] ∧ f s c = .ok v R := by
  match args, h with
  | [a, b], h =>
    obtain ⟨s, rfl, h2⟩ := eS_inv (show eS a _ = .ok v R from h)
    obtain ⟨c, rfl, h3⟩ := eB_inv h2
    exact ⟨s, c, rfl, h3⟩
  | [], h => cases h
  | [_], h => cases h
  | _ :: _ :: _ :: _, h => cases h
theorem ba_len (s : ByteArray) : s.size = s.data.toList.length := Array.length_toList.symm
/-- Where a byte stands first. -/
def ixL : List UInt8 → Nat → Nat → Int
  | [], _, _ => -1
  | b :: l, c, n => cond (Nat.beq b.toNat c) (Int.ofNat n) (ixL l c (Nat.succ n))
def ixByte (s : ByteArray) (c : Int) : Int := ixL s.data.toList c.toNat.toUInt8.toNat 0
/-- How often a byte stands. -/
def cntL : List UInt8 → Nat → Nat
  | [], _ => 0
  | b :: l, c => cond (Nat.beq b.toNat c) (Nat.succ (cntL l c)) (cntL l c)
def cntByte (s : ByteArray) (c : Int) : Int := Int.ofNat (cntL s.data.toList c.toNat.toUInt8.toNat)
def xStr (args : List Value) (S : AW) (g : ByteArray → Int → Int) : Option (Value × AW) := match args with
  | [.string s, .int .u8 c] => some (.int .i64 (g s c), S)
  | _ => none
theorem ixLU_inv {c : Nat} : ∀ {l : List Nat} {n : Nat} {f : FV → RU} {v : FV} {R : FAW}, ixLU l c n f = .ok v R → ∃ w, toV w = .int .i64 (ixL (l.map UInt8.ofNat) (Nat.mod c 256) n) ∧ f w = .ok v R
  | [], n, f, v, R, h => ⟨.i .i64 (-1), by simp only [toV, List.map_nil, ixL], h⟩
  | b :: l, n, f, v, R, h => by
    have h : cn (Nat.beq (Nat.mod b 256) (Nat.mod c 256)) (f (.n n)) (ixLU l c (Nat.succ n) f) = .ok v R := h
    have e1 : (UInt8.ofNat b).toNat = Nat.mod b 256 := by simp; rfl
    simp only [List.map_cons, ixL, e1]
    cases e : Nat.beq (Nat.mod b 256) (Nat.mod c 256) with
    | true =>
      rw [e] at h
      exact ⟨.n n, by simp only [toV, cond_true], h⟩
    | false =>
      rw [e] at h
      exact ixLU_inv h
theorem cntLU_eq (c : Nat) : ∀ l : List Nat, cntLU l c = cntL (l.map UInt8.ofNat) (Nat.mod c 256)
  | [] => rfl
  | b :: l => by
    have h : cntLU (b :: l) c = Bool.rec (motive := fun _ => Nat) (cntLU l c) (Nat.succ (cntLU l c)) (Nat.beq (Nat.mod b 256) (Nat.mod c 256)) := rfl
    have e1 : (UInt8.ofNat b).toNat = Nat.mod b 256 := by simp; rfl
    rw [h, cntLU_eq c l]
    simp only [List.map_cons, cntL, e1]
    cases Nat.beq (Nat.mod b 256) (Nat.mod c 256) <;> rfl
theorem u8_mod (c : Nat) : (Int.ofNat c).toNat.toUInt8.toNat = Nat.mod c 256 := by
  show (UInt8.ofNat c).toNat = _
  simp; rfl
noncomputable def xIx : Fu := fun U n args F => xTwo args fun s c => ixLU s c 0 fun v => .ok v F
noncomputable def xCnt : Fu := fun U n args F => xTwo args fun s c => fN (cntLU s c) fun n => .ok (.n n) F
theorem okU_ix {E : FuncId → Option XFunc} {X : Callee} {f : FuncId} (hE : E f = none) (hX : ∀ args S, X f args S = xStr args S ixByte) : OkU E X f xIx := by
  intro U C n args F S v R hU hF hx
  obtain ⟨s, c, rfl, h2⟩ := xTwo_inv hx
  obtain ⟨w, h3, h4⟩ := ixLU_inv h2
  simp only [RU.ok.injEq] at h4
  obtain ⟨rfl, rfl⟩ := h4
  refine ⟨S, hF, .inr ⟨hE, ?_⟩⟩
  rw [hX]
  simp only [toVs, toV, xStr, ixByte, u8_mod, h3]
theorem okU_cnt {E : FuncId → Option XFunc} {X : Callee} {f : FuncId} (hE : E f = none) (hX : ∀ args S, X f args S = xStr args S cntByte) : OkU E X f xCnt := by
  intro U C n args F S v R hU hF hx
  obtain ⟨s, c, rfl, h2⟩ := xTwo_inv hx
  rw [fN_eq] at h2
  simp only [RU.ok.injEq] at h2
  obtain ⟨rfl, rfl⟩ := h2
  refine ⟨S, hF, .inr ⟨hE, ?_⟩⟩
  rw [hX]
  simp only [toVs, toV, xStr, cntByte, u8_mod, cntLU_eq]
-- the same with their constants as plain values
noncomputable def uNewF (elem es : Nat) (cells : List FV) (F : FAW) (f : KU) : RU := newU cells elem es F fun i F' => f (.p i 0) F'
noncomputable def uBuildF (zero : List FV) (ps : List (Nat × Nat × FV)) (F : FAW) (f : KU) : RU := fillU zero ps fun l => f (.a l) F
noncomputable def uLitF (elem size : Nat) (zero : List FV) (n : Nat) (ps : List (Nat × Nat × FV)) (F : FAW) (f : KU) : RU :=
  fillU (repU zero n) ps fun l => newU l elem size F fun i F' => f (.l i 0 n n) F'
noncomputable def uMksF (elem size bytes : Nat) (zero : List FV) (l c : FV) (F : FAW) (f : KU) : RU :=
  eI l fun l => eI c fun c => cn (an (Nat.ble l c) (an (Nat.ble c 140737488355328) (Nat.ble (Nat.mul c bytes) 281474976710656))) (newU (repU zero c) elem size F fun i F' => f (.l i 0 l c) F') .no
noncomputable def uMlkF (ks : KS) (z : FV) (ok : Bool) (x k : FV) (F : FAW) (f : KU) : RU :=
  eL x (fun _ _ _ _ => .no) .no (fun _ => .no) (fun i => findM F.h i fun es => mfU ks k es fun o => Option.rec (motive := fun _ => RU) (outU ok z false F f) (fun j => nthU es j fun p => outU ok p.2 true F f) o) (fitSU ks k (outU ok z false F f))
/-- A field behind a pointer. -/
noncomputable def uGet (off : Nat) (a : FV) (F : FAW) (f : KU) : RU := uNilc a F fun v F => uFad off v F fun w F => uLd none w F f
noncomputable def uNo (F : FAW) (f : KU) : RU := .no
noncomputable def uNot (a : FV) (F : FAW) (f : KU) : RU := eT a fun t => f (.t (nt t)) F
end Go.Proofs.Ythclmjelknibhaa.Ev
