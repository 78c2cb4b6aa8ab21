/- A text that reads two slots by their rests alone. -/
import Derived.Test.YthclmjelknibhaaDiskS
import Derived.KernelRfl
namespace Go.Proofs.Ythclmjelknibhaa.Ev
open Go Go.RowKit
set_option linter.unusedVariables false
set_option linter.unusedSimpArgs false
set_option linter.constructorNameAsVariable false
def st (x y : FV) : W14 → W14 | .mk a c d e f g h i j k l m o p => .mk x y d e f g h i j k l m o p
theorem st_st (x y x' y' : FV) (v : W14) : st x y (st x' y' v) = st x y v := by cases v; rfl
structure Sw (x y x' y' : FV) (c : CdU W14) : Prop where
  sw : ∀ v F κ, c (st x y v) F κ = c (st x' y' v) F fun o v F => κ o (st x y v) F
  pr : ∀ v F κ, c (st x' y' v) F κ = c (st x' y' v) F fun o v F => κ o (st x' y' v) F
variable {x y x' y' : FV} {a b : CdU W14}
theorem Sw.seq (ha : Sw x y x' y' a) (hb : Sw x y x' y' b) : Sw x y x' y' (seqU a b) := by
  refine ⟨fun v F κ => ?_, fun v F κ => ?_⟩
  · unfold seqU
    rw [ha.sw, ha.pr]
    conv => rhs; rw [ha.pr]
    congr 1; funext o v F
    cases o
    · show b (st x y (st x' y' v)) F κ = b (st x' y' v) F _
      rw [st_st, hb.sw]
    · show κ _ (st x y (st x' y' v)) F = κ _ (st x y (st x' y' v)) F
      rfl
    · rfl
  · unfold seqU
    rw [ha.pr]
    conv => rhs; rw [ha.pr]
    congr 1; funext o v F
    cases o
    · exact hb.pr v F κ
    · show κ _ (st x' y' v) F = κ _ (st x' y' (st x' y' v)) F
      rw [st_st]
    · show κ _ (st x' y' v) F = κ _ (st x' y' (st x' y' v)) F
      rw [st_st]
theorem Sw.skip : Sw x y x' y' skipU := ⟨fun v F κ => by show κ _ _ _ = κ _ _ _; rw [st_st], fun v F κ => by show κ _ _ _ = κ _ _ _; rw [st_st]⟩
theorem Sw.ret : Sw x y x' y' retU := ⟨fun v F κ => by show κ _ _ _ = κ _ _ _; rw [st_st], fun v F κ => by show κ _ _ _ = κ _ _ _; rw [st_st]⟩
theorem Sw.exit (i : Nat) : Sw x y x' y' (exitU i) := ⟨fun v F κ => by show κ _ _ _ = κ _ _ _; rw [st_st], fun v F κ => by show κ _ _ _ = κ _ _ _; rw [st_st]⟩
theorem Sw.cond {c : W14 → FV} (hc : ∀ v, c (st x y v) = c (st x' y' v)) (ha : Sw x y x' y' a) (hb : Sw x y x' y' b) : Sw x y x' y' (condU c a b) :=
  ⟨fun v F κ => by unfold condU; rw [hc, ha.sw, hb.sw], fun v F κ => by unfold condU; rw [ha.pr, hb.pr]⟩
theorem exB (i : Nat) (o : EX) (v : W14) (F : FAW) (κ : EX → W14 → FAW → RU) (g : W14 → W14) : (exU o (κ .normal (g v) F) (fun k => cn (Nat.beq k i) (κ .normal (g v) F) (κ (.exit k) (g v) F)) (κ .ret (g v) F)) = exU o ((fun o v F => κ o (g v) F) .normal v F) (fun k => cn (Nat.beq k i) ((fun o v F => κ o (g v) F) .normal v F) ((fun o v F => κ o (g v) F) (.exit k) v F)) ((fun o v F => κ o (g v) F) .ret v F) := rfl
theorem Sw.block (i : Nat) (ha : Sw x y x' y' a) : Sw x y x' y' (blockU i a) :=
  ⟨fun v F κ => ha.sw v F _, fun v F κ => ha.pr v F _⟩
theorem Sw.loop (ha : Sw x y x' y' a) : ∀ n, Sw x y x' y' (loopU n a)
  | 0 => ⟨fun v F κ => rfl, fun v F κ => rfl⟩
  | n + 1 => by
    have ih := Sw.loop ha n
    refine ⟨fun v F κ => ?_, fun v F κ => ?_⟩
    · show a (st x y v) F (fun o v F => exU o (loopU n a v F κ) (fun i => κ (.exit i) v F) (κ .ret v F)) = a (st x' y' v) F (fun o v F => exU o (loopU n a v F fun o v F => κ o (st x y v) F) (fun i => κ (.exit i) (st x y v) F) (κ .ret (st x y v) F))
      rw [ha.sw, ha.pr]
      conv => rhs; rw [ha.pr]
      congr 1; funext o v F
      cases o
      · show loopU n a (st x y (st x' y' v)) F κ = loopU n a (st x' y' v) F _
        rw [st_st, ih.sw]
      · rfl
      · rfl
    · show a (st x' y' v) F (fun o v F => exU o (loopU n a v F κ) (fun i => κ (.exit i) v F) (κ .ret v F)) = a (st x' y' v) F (fun o v F => exU o (loopU n a v F fun o v F => κ o (st x' y' v) F) (fun i => κ (.exit i) (st x' y' v) F) (κ .ret (st x' y' v) F))
      rw [ha.pr]
      conv => rhs; rw [ha.pr]
      congr 1; funext o v F
      cases o
      · exact ih.pr v F κ
      · show κ _ (st x' y' v) F = κ _ (st x' y' (st x' y' v)) F
        rw [st_st]
      · show κ _ (st x' y' v) F = κ _ (st x' y' (st x' y' v)) F
        rw [st_st]
theorem sw0 (C : CU) : Sw x y x' y' (u3_0 C) := ⟨by rintro ⟨⟩ F κ; rfl, by rintro ⟨⟩ F κ; rfl⟩
theorem sw1 (C : CU) : Sw x y x' y' (u3_1 C) := ⟨by rintro ⟨⟩ F κ; rfl, by rintro ⟨⟩ F κ; rfl⟩
theorem sw3 (C : CU) : Sw x y x' y' (u3_3 C) := ⟨by rintro ⟨⟩ F κ; rfl, by rintro ⟨⟩ F κ; rfl⟩
theorem sw4 (C : CU) : Sw x y x' y' (u3_4 C) := ⟨by rintro ⟨⟩ F κ; rfl, by rintro ⟨⟩ F κ; rfl⟩
theorem sw7 (C : CU) : Sw x y x' y' (u3_7 C) := ⟨by rintro ⟨⟩ F κ; rfl, by rintro ⟨⟩ F κ; rfl⟩
theorem sw8 (C : CU) : Sw x y x' y' (u3_8 C) := ⟨by rintro ⟨⟩ F κ; rfl, by rintro ⟨⟩ F κ; rfl⟩
theorem sw10 (C : CU) : Sw x y x' y' (u3_10 C) := ⟨by rintro ⟨⟩ F κ; rfl, by rintro ⟨⟩ F κ; rfl⟩
theorem sw11 (C : CU) : Sw x y x' y' (u3_11 C) := ⟨by rintro ⟨⟩ F κ; rfl, by rintro ⟨⟩ F κ; rfl⟩
theorem sw13 (C : CU) : Sw x y x' y' (u3_13 C) := ⟨by rintro ⟨⟩ F κ; rfl, by rintro ⟨⟩ F κ; rfl⟩
theorem sw14 (C : CU) : Sw x y x' y' (u3_14 C) := ⟨by rintro ⟨⟩ F κ; rfl, by rintro ⟨⟩ F κ; rfl⟩
theorem sw16 (C : CU) : Sw x y x' y' (u3_16 C) := ⟨by rintro ⟨⟩ F κ; rfl, by rintro ⟨⟩ F κ; rfl⟩
theorem sw17 (C : CU) : Sw x y x' y' (u3_17 C) := ⟨by rintro ⟨⟩ F κ; rfl, by rintro ⟨⟩ F κ; rfl⟩
theorem sw19 (C : CU) : Sw x y x' y' (u3_19 C) := ⟨by rintro ⟨⟩ F κ; rfl, by rintro ⟨⟩ F κ; rfl⟩
theorem sw20 (C : CU) : Sw x y x' y' (u3_20 C) := ⟨by rintro ⟨⟩ F κ; rfl, by rintro ⟨⟩ F κ; rfl⟩
theorem sw22 (C : CU) : Sw x y x' y' (u3_22 C) := ⟨by rintro ⟨⟩ F κ; rfl, by rintro ⟨⟩ F κ; rfl⟩
theorem sk2 (v : W14) : u3_2 (st x y v) = u3_2 (st x' y' v) := by cases v; rfl
theorem sk9 (v : W14) : u3_9 (st x y v) = u3_9 (st x' y' v) := by cases v; rfl
theorem sk12 (v : W14) : u3_12 (st x y v) = u3_12 (st x' y' v) := by cases v; rfl
theorem sk15 (v : W14) : u3_15 (st x y v) = u3_15 (st x' y' v) := by cases v; rfl
theorem sw18 (C : CU) (n : Nat) : Sw x y x' y' (u3_18 C n) := ((sw8 C).seq (.cond sk9 .skip (.exit 0))).seq ((Sw.block 1 ((sw10 C).seq (((sw11 C).seq (.cond sk12 ((sw13 C).seq .ret) .skip)).seq ((sw14 C).seq (.cond sk15 ((sw16 C).seq .ret) .skip))))).seq (sw17 C))
theorem quo_b (q k : Nat) (F : FAW) (f : KU) : uQuo false .rem (.b q) (.b k) F f = uQuo false .rem (.b (q % k)) (.b k) F f := by
  show uO _ F f = uO _ F f
  congr 1
  show binV .rem (.int .u8 (Int.ofNat q)) (.int .u8 (Int.ofNat k)) = binV .rem (.int .u8 (Int.ofNat (q % k))) (.int .u8 (Int.ofNat k))
  have e : Int.tmod (Int.ofNat q) (Int.ofNat k) = Int.tmod (Int.ofNat (q % k)) (Int.ofNat k) := by
    show Int.ofNat (q % k) = Int.ofNat (q % k % k)
    rw [Nat.mod_mod]
  simp only [binV, iop, e]
theorem sw5 (C : CU) (q : Nat) : Sw (.b q) y (.b (q % 6)) y' (u3_5 C) := ⟨by
  rintro ⟨⟩ F κ
  unfold u3_5 m14 st
  exact quo_b q 6 F _, by rintro ⟨⟩ F κ; rfl⟩
theorem sw6 (C : CU) (q : Nat) : Sw x (.b q) x' (.b (q % 4)) (u3_6 C) := ⟨by
  rintro ⟨⟩ F κ
  unfold u3_6 m14 st
  exact quo_b q 4 F _, by rintro ⟨⟩ F κ; rfl⟩
theorem sw21 (C : CU) (q : Nat) : Sw x (.b q) x' (.b (q % 4)) (u3_21 C) := ⟨by
  rintro ⟨⟩ F κ
  unfold u3_21 m14 st
  exact quo_b q 4 F _, by rintro ⟨⟩ F κ; rfl⟩
theorem sw3b (C : CU) (n p q : Nat) : Sw (.b p) (.b q) (.b (p % 6)) (.b (q % 4)) (u3b C n) :=
  (sw0 C).seq (((sw1 C).seq (.cond sk2 ((sw3 C).seq .ret) .skip)).seq ((sw4 C).seq ((sw5 C p).seq ((sw6 C q).seq (((sw7 C).seq (.block 0 (.loop (sw18 C n) n))).seq ((sw19 C).seq ((sw20 C).seq ((sw21 C q).seq ((sw22 C).seq .ret)))))))))
theorem u3_rest (C : CU) (n p q : Nat) (F : FAW) : u3 C n [.b p, .b q] F = u3 C n [.b (p % 6), .b (q % 4)] F := by
  rw [u3_in, u3_in]
  have h := (sw3b C n p q).sw (.mk (.b p) (.b q) (.u []) (.u []) (.u []) (.u []) (.u []) (.u []) (.u []) (.u []) (.u []) (.u []) (.u []) (.u [])) F fun o v F => exU o (u3r v F) (fun _ => .no) (u3r v F)
  refine h.trans ?_
  first | rfl | (congr 1; funext o v F; cases v; cases o <;> rfl)
theorem arms_closed : ∀ p, p < 6 → ∀ q, q < 4 → yesU (clU diskD 40 3 [.b p, .b q] ⟨.nil, .nil, 0⟩) = true
  | 0, _ => fun | 0, _ => by kernel_rfl | 1, _ => by kernel_rfl | 2, _ => by kernel_rfl | 3, _ => by kernel_rfl
  | 1, _ => fun | 0, _ => by kernel_rfl | 1, _ => by kernel_rfl | 2, _ => by kernel_rfl | 3, _ => by kernel_rfl
  | 2, _ => fun | 0, _ => by kernel_rfl | 1, _ => by kernel_rfl | 2, _ => by kernel_rfl | 3, _ => by kernel_rfl
  | 3, _ => fun | 0, _ => by kernel_rfl | 1, _ => by kernel_rfl | 2, _ => by kernel_rfl | 3, _ => by kernel_rfl
  | 4, _ => fun | 0, _ => by kernel_rfl | 1, _ => by kernel_rfl | 2, _ => by kernel_rfl | 3, _ => by kernel_rfl
  | 5, _ => fun | 0, _ => by kernel_rfl | 1, _ => by kernel_rfl | 2, _ => by kernel_rfl | 3, _ => by kernel_rfl
theorem arms (p q : Nat) : yesU (clU diskD 40 3 [.b p, .b q] ⟨.nil, .nil, 0⟩) = true := by
  rw [cl3, u3_rest, ← cl3]
  exact arms_closed _ (Nat.mod_lt _ (by decide)) _ (Nat.mod_lt _ (by decide))
end Go.Proofs.Ythclmjelknibhaa.Ev
