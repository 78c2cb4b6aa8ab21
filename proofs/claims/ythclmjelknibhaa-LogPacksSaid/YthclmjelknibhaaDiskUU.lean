/- Texts of the functions with a loop over a map. -/
import Derived.Test.YthclmjelknibhaaEvU9
import Derived.Test.YthclmjelknibhaaDiskRR
import Derived.Test.YthclmjelknibhaaDiskNN
namespace Go.Proofs.Ythclmjelknibhaa.Ev
open Go Go.RowKit
set_option linter.unusedVariables false
set_option linter.unusedSimpArgs false

theorem HOk.later {S : AW} (k : Nat) : ∀ {l : HL}, HOk S l → HOk { S with next := S.next + k } l
  | .nil, _ => trivial
  | .cell _ _ _ _ _ _ r, h => ⟨h.1, Nat.lt_of_lt_of_le h.2.1 (Nat.le_add_right _ _), h.2.2.1, HOk.later k h.2.2.2⟩
  | .map _ _ r, h => ⟨h.1, Nat.lt_of_lt_of_le h.2.1 (Nat.le_add_right _ _), h.2.2.1, HOk.later k h.2.2.2⟩
theorem FOk.later {S : AW} (k : Nat) : ∀ {l : FL}, FOk S l → FOk { S with next := S.next + k } l
  | .nil, _ => trivial
  | .fam _ _ _ r, h => ⟨h.1, Nat.lt_of_lt_of_le h.2.1 (Nat.le_add_right _ _), h.2.2.1, FOk.later k h.2.2.2⟩
theorem UR.later {F : FAW} {S : AW} (h : UR F S) (k : Nat) : UR ⟨F.h, F.fs, F.x + k⟩ { S with next := S.next + k } := ⟨by rw [h.next], h.h.later k, h.f.later k⟩
def lenU1 : FV → Option Nat
  | .a [.l _ _ n _, .n _] => some n
  | .a [.nl, .n _] => some 0
  | _ => none
theorem lenU1_ok {v : FV} {n : Nat} (h : lenU1 v = some n) : isFile (toV v) = true ∧ lenV (toV v) = n := by
  unfold lenU1 at h
  split at h
  · simp only [Option.some.injEq] at h; subst h; simp [isFile, lenV, toV, toVs]
  · simp only [Option.some.injEq] at h; subst h; simp [isFile, lenV, toV, toVs]
  · cases h
def lensU : List (FV × FV) → Option Nat
  | [] => some 0
  | (_, v) :: l => match lenU1 v, lensU l with
    | some n, some t => some (n + t)
    | _, _ => none
theorem lensU_ok : ∀ {l : List (FV × FV)} {t : Nat}, lensU l = some t → (∀ p ∈ toEs l, isFile p.2 = true) ∧ ((toEs l).map fun p => lenV p.2).sum = t
  | [], t, h => by simp only [lensU, Option.some.injEq] at h; subst h; exact ⟨fun p hp => by simp [toEs] at hp, rfl⟩
  | (k, v) :: l, t, h => by
    simp only [lensU] at h
    split at h
    · rename_i n t' h1 h2
      simp only [Option.some.injEq] at h
      subst h
      obtain ⟨a1, a2⟩ := lenU1_ok h1
      obtain ⟨b1, b2⟩ := lensU_ok h2
      refine ⟨fun p hp => ?_, ?_⟩
      · rcases List.mem_cons.mp hp with rfl | hp
        · exact a1
        · exact b1 p hp
      · show lenV (toV v) + _ = _
        rw [a2]
        congr 1
    · cases h
theorem wrap_nat {m : Nat} (h : m < 4611686018427387904) : IntKind.wrap .i64 (m : Int) = (m : Int) := by
  simp only [IntKind.wrap, IntKind.bits, IntKind.signed]
  simp
  omega
noncomputable def uLeft : Fu := fun U n args F => match args with
  | [.np] => .ok (.n 0) F
  | [.p d 0] => findH F.h d fun c el es fm ro => match c with
    | [.n room, .m m, _, _, _, _] => findM F.h m fun fs => match lensU fs with
      | some t => if t ≤ room ∧ room < 4611686018427387904 then .ok (.n (room - t)) ⟨F.h, F.fs, F.x + (1 + fs.length)⟩ else .no
      | none => .no
    | _ => .no
  | _ => .no
theorem okU_left {E : FuncId → Option XFunc} {X : Callee} {f : FuncId} (hE : E f = none) (hX : ∀ args S, X f args S = xLeft args S) : OkU E X f uLeft := by
  intro U C n args F S v R hU hF hx
  unfold uLeft at hx
  split at hx
  · simp only [RU.ok.injEq] at hx
    obtain ⟨rfl, rfl⟩ := hx
    exact ⟨S, hF, .inr ⟨hE, by rw [hX]; rfl⟩⟩
  · rename_i d
    obtain ⟨c, el, es, fm, ro, ⟨r, hr1, hr2, _⟩, hx⟩ := findH_inv hF.h hx
    split at hx
    · rename_i room m v2 v3 v4 v5
      obtain ⟨fs, hm, hx⟩ := findM_inv hF.h hx
      split at hx
      · rename_i t ht
        split at hx
        · rename_i hc
          simp only [RU.ok.injEq] at hx
          obtain ⟨rfl, rfl⟩ := hx
          obtain ⟨h1, h2⟩ := lensU_ok ht
          refine ⟨_, hF.later (1 + fs.length), .inr ⟨hE, ?_⟩⟩
          have c0 : S.cell d 0 = some (.int .i64 (room : Nat)) := cell_of hr1 (by rw [hr2]; rfl) rfl
          have c1 : S.cell d 1 = some (.map (some m)) := cell_of hr1 (by rw [hr2]; rfl) rfl
          have hw : IntKind.wrap .i64 ((room : Int) - ((t : Nat) : Int)) = ((room - t : Nat) : Int) := by
            rw [← Int.ofNat_sub hc.1]
            exact wrap_nat (by omega)
          have hfl : (toEs fs).all (fun p => isFile p.2) = true := List.all_eq_true.mpr h1
          have hlen : (toEs fs).length = fs.length := by simp [toEs]
          rw [hX]
          simp only [toVs, toV, xLeft, c0, c1, hm, hfl, wrap_nat hc.2, decide_true, Bool.and_self, if_true, h2, hw, hlen]
          rfl
        · cases hx
      · cases hx
    · cases hx
  · cases hx
end Go.Proofs.Ythclmjelknibhaa.Ev
/- The functions with a loop over a map, and the sorted names: as one table. -/
namespace Go.Proofs.Ythclmjelknibhaa.Ev
open Go Go.RowKit
set_option linter.unusedVariables false

def diskXX : Callee := fun f args S => if f = 23 then xLeft args S else if f = 22 then xCrash args S else if f = 19 then xPower args S else if f = 24 then xNames args S else none
theorem none_ok (P : Program) : COk P (fun _ _ _ => none) := fun _ _ _ _ _ _ _ _ _ _ _ h => by cases h
theorem diskXX_ok (hmx : Try.prog.follows .mixedOrders = true) : COk Try.prog diskXX := by
  intro W0 ρ S w f args args' v S' hw ha h
  unfold diskXX at h
  split at h
  · rename_i e; subst e; exact .inl (left_ok hmx (none_ok _) 1 k23 hw ha h)
  · split at h
    · rename_i e; subst e; exact .inl (crash_ok hmx 1 hw ha h)
    · split at h
      · rename_i e; subst e; exact .inl (power_ok hmx (none_ok _) 1 k19 hw ha h)
      · split at h
        · rename_i e; subst e; exact .inl (names_ok hmx (none_ok _) 1 hw ha h)
        · cases h
end Go.Proofs.Ythclmjelknibhaa.Ev
/- Texts of the functions with a loop over a map: Power, Crash, Names. -/
namespace Go.Proofs.Ythclmjelknibhaa.Ev
open Go Go.RowKit
set_option linter.unusedVariables false
set_option linter.unusedSimpArgs false

def lastsU : FV → FV
  | .a [.l i o n c, _] => .a [.l i o n c, .n n]
  | .a [.nl, _] => .a [.nl, .n 0]
  | v => v
theorem lastsU_ok {v : FV} {n : Nat} (h : lenU1 v = some n) : toV (lastsU v) = lastsV (toV v) := by
  unfold lenU1 at h
  split at h
  · rfl
  · rfl
  · cases h
theorem lastsU_es : ∀ {l : List (FV × FV)} {t : Nat}, lensU l = some t → toEs (l.map fun p => (p.1, lastsU p.2)) = (toEs l).map fun p => (p.1, lastsV p.2)
  | [], t, h => rfl
  | (k, v) :: l, t, h => by
    simp only [lensU] at h
    split at h
    · rename_i n t' h1 h2
      show (toV k, toV (lastsU v)) :: toEs (l.map fun p => (p.1, lastsU p.2)) = (toV k, lastsV (toV v)) :: (toEs l).map fun p => (p.1, lastsV p.2)
      rw [lastsU_ok h1, lastsU_es h2]
    · cases h
open Classical in
noncomputable def uPower : Fu := fun U n args F => match args with
  | [.np] => .ok (.u []) F
  | [.p d 0] => findH F.h d fun c el es fm ro => match c with
    | [v0, .m m, v2, v3, v4, v5] => findM F.h m fun fs => match lensU fs with
      | some t => if ro = false ∧ keysOk (toEs fs) = true ∧ isBad (toV v5) = false then
          putMU F m (fs.map fun p => (p.1, lastsU p.2)) fun F1 => putU F1 d fm [v0, .m m, v2, v3, v4, .t false] fun F2 => .ok (.u []) ⟨F2.h, F2.fs, F2.x + (1 + fs.length)⟩ else .no
      | none => .no
    | _ => .no
  | _ => .no
theorem okU_power {E : FuncId → Option XFunc} {X : Callee} {f : FuncId} (hE : E f = none) (hX : ∀ args S, X f args S = xPower args S) : OkU E X f uPower := by
  intro U C n args F S v R hU hF hx
  unfold uPower at hx
  split at hx
  · simp only [RU.ok.injEq] at hx
    obtain ⟨rfl, rfl⟩ := hx
    exact ⟨S, hF, .inr ⟨hE, by rw [hX]; rfl⟩⟩
  · rename_i d
    obtain ⟨c, el, es, fm, ro, ⟨r, hr1, hr2, hr3, hr4, hr5, hr6⟩, hxa⟩ := findH_inv hF.h hx
    clear hx
    split at hxa
    · rename_i v0 m v2 v3 v4 v5
      obtain ⟨fs, hm, hxb⟩ := findM_inv hF.h hxa
      clear hxa
      split at hxb
      · rename_i t ht
        split at hxb
        · rename_i hc
          obtain ⟨c1, c2, c3⟩ := hc
          obtain ⟨h1, h2⟩ := lensU_ok ht
          obtain ⟨rc, rel, res, rf, rg, rro⟩ := r
          simp only at hr2 hr3 hr4 hr5 hr6
          subst hr2 hr3 hr4 hr5 hr6
          subst c1
          obtain ⟨F1, hF1, hxc⟩ := putMU_inv hF (S.bir m) hm hxb
          have hdm : d ≠ m := fun e => by
            have a1 := (AW.raw_some hr1).1
            rw [e, AW.mapv_some hm] at a1
            cases a1
          have hr2 := (raw_putMap (es := toEs (fs.map fun p => (p.1, lastsU p.2))) (b := S.bir m) hdm).trans hr1
          obtain ⟨F2, hF2, hxd⟩ := putU_inv hF1 hr2 hxc
          simp only [RU.ok.injEq] at hxd
          obtain ⟨rfl, rfl⟩ := hxd
          refine ⟨_, hF2.later (1 + fs.length), .inr ⟨hE, ?_⟩⟩
          have hfl : (toEs fs).all (fun p => isFile p.2) = true := List.all_eq_true.mpr h1
          have hlen : (toEs fs).length = fs.length := by simp [toEs]
          rw [hX, lastsU_es ht]
          simp only [toVs, toV] at hr1 ⊢
          simp only [xPower, hr1, hm, hfl, c2, c3, Bool.and_self, Bool.not_false, if_true, hlen]
          rfl
        · cases hxb
      · cases hxb
    · cases hxa
  · cases hx
end Go.Proofs.Ythclmjelknibhaa.Ev
/- Texts of the functions with a loop over a map: Crash. -/
namespace Go.Proofs.Ythclmjelknibhaa.Ev
open Go Go.RowKit
set_option linter.unusedVariables false
set_option linter.unusedSimpArgs false

/-- Are these files, of memory that is known? -/
noncomputable def chkU (F : FAW) : List (FV × FV) → RU → RU
  | [], k => k
  | (_, v) :: l, k => match v with
    | .a [.l i o n c, .n q] => if q ≤ n ∧ n ≤ c ∧ n < 4611686018427387904 then findH F.h i fun _ _ es _ _ => if es = 1 then chkU F l k else .no else .no
    | .a [.nl, .n q] => if q = 0 then chkU F l k else .no
    | _ => .no
theorem chkU_inv {F : FAW} {S : AW} (hF : UR F S) {v : FV} {R : FAW} : ∀ {l : List (FV × FV)} {k : RU}, chkU F l k = .ok v R → (∀ p ∈ toEs l, fileOk S p.2 = true) ∧ k = .ok v R
  | [], k, h => ⟨fun p hp => by simp [toEs] at hp, h⟩
  | (a, w) :: l, k, h => by
    have fin : ∀ {k' : RU}, fileOk S (toV w) = true → chkU F l k = .ok v R → (∀ p ∈ toEs ((a, w) :: l), fileOk S p.2 = true) ∧ k = .ok v R := fun h1 h2 => by
      obtain ⟨h3, h4⟩ := chkU_inv hF h2
      refine ⟨fun p hp => ?_, h4⟩
      rcases List.mem_cons.mp hp with rfl | hp
      · exact h1
      · exact h3 p hp
    unfold chkU at h
    split at h
    · rename_i i o n c q
      split at h
      · rename_i hc
        obtain ⟨_, _, es, _, _, ⟨r, hr, _, _, hr4, _⟩, h⟩ := findH_inv hF.h h
        split at h
        · rename_i he
          refine fin (k' := k) ?_ h
          have : r.es = 1 := hr4.trans he
          simp [fileOk, toV, toVs, hc.1, hc.2.1, hc.2.2, hr, this]
        · cases h
      · cases h
    · rename_i q
      split at h
      · rename_i hq
        refine fin (k' := k) ?_ h
        simp [fileOk, toV, toVs, hq]
      · cases h
    · cases h
def cutFU (part : Int) : FV → FV
  | .a [.l i o n c, .n q] => .a [.l i o (cutN n q part) c, .n q]
  | v => v
theorem cutFU_es {F : FAW} {S : AW} (hF : UR F S) (part : Int) {v : FV} {R : FAW} : ∀ {l : List (FV × FV)} {k : RU}, chkU F l k = .ok v R → toEs (l.map fun p => (p.1, cutFU part p.2)) = (toEs l).map fun p => (p.1, cutV part p.2)
  | [], k, h => rfl
  | (a, w) :: l, k, h => by
    have fin : toV (cutFU part w) = cutV part (toV w) → chkU F l k = .ok v R → toEs (((a, w) :: l).map fun p => (p.1, cutFU part p.2)) = (toEs ((a, w) :: l)).map fun p => (p.1, cutV part p.2) := fun h1 h2 => by
      have := cutFU_es hF part h2
      show (toV a, toV (cutFU part w)) :: toEs (l.map fun p => (p.1, cutFU part p.2)) = (toV a, cutV part (toV w)) :: (toEs l).map fun p => (p.1, cutV part p.2)
      rw [h1, this]
    unfold chkU at h
    split at h
    · split at h
      · obtain ⟨_, _, es, _, _, _, h⟩ := findH_inv hF.h h
        split at h
        · exact fin rfl h
        · cases h
      · cases h
    · split at h
      · exact fin rfl h
      · cases h
    · cases h
open Classical in
noncomputable def uCrash : Fu := fun U n args F => match args with
  | [.np, .n _] => .ok (.u []) F
  | [.np, .i .i64 _] => .ok (.u []) F
  | [.p d 0, pv] => match toV pv with
    | .int .i64 part => findH F.h d fun c el es fm ro => match c with
      | [v0, .m m, v2, v3, v4, v5] => findM F.h m fun fs => chkU F fs <| if ro = false ∧ keysOk (toEs fs) = true ∧ isBad (toV v2) = false ∧ isBad (toV v5) = false then
          putMU F m (fs.map fun p => (p.1, cutFU part p.2)) fun F1 => putU F1 d fm [v0, .m m, v2, v3, v4, .t true] fun F2 => putU F2 d fm [v0, .m m, .t false, v3, v4, .t true] fun F3 => .ok (.u []) ⟨F3.h, F3.fs, F3.x + (1 + 3 * fs.length)⟩ else .no
      | _ => .no
    | _ => .no
  | _ => .no
theorem okU_crash {E : FuncId → Option XFunc} {X : Callee} {f : FuncId} (hE : E f = none) (hX : ∀ args S, X f args S = xCrash args S) : OkU E X f uCrash := by
  intro U C n args F S v R hU hF hx
  unfold uCrash at hx
  split at hx
  · simp only [RU.ok.injEq] at hx
    obtain ⟨rfl, rfl⟩ := hx
    exact ⟨S, hF, .inr ⟨hE, by rw [hX]; rfl⟩⟩
  · simp only [RU.ok.injEq] at hx
    obtain ⟨rfl, rfl⟩ := hx
    exact ⟨S, hF, .inr ⟨hE, by rw [hX]; rfl⟩⟩
  · rename_i d pv
    split at hx
    · rename_i part hpv
      obtain ⟨c, el, es, fm, ro, ⟨r, hr1, hr2, hr3, hr4, hr5, hr6⟩, hxa⟩ := findH_inv hF.h hx
      clear hx
      split at hxa
      · rename_i v0 m v2 v3 v4 v5
        obtain ⟨fs, hm, hxb⟩ := findM_inv hF.h hxa
        clear hxa
        have hes := cutFU_es hF part hxb
        obtain ⟨h1, hxb2⟩ := chkU_inv hF hxb
        clear hxb
        split at hxb2
        · rename_i hc
          obtain ⟨c1, c2, c3, c4⟩ := hc
          obtain ⟨rc, rel, res, rf, rg, rro⟩ := r
          simp only at hr2 hr3 hr4 hr5 hr6
          subst hr2 hr3 hr4 hr5 hr6
          subst c1
          obtain ⟨F1, hF1, hxc⟩ := putMU_inv hF (S.bir m) hm hxb2
          have hdm : d ≠ m := fun e => by
            have a1 := (AW.raw_some hr1).1
            rw [e, AW.mapv_some hm] at a1
            cases a1
          have hr2 := (raw_putMap (es := toEs (fs.map fun p => (p.1, cutFU part p.2))) (b := S.bir m) hdm).trans hr1
          obtain ⟨F2, hF2, hxd⟩ := putU_inv hF1 hr2 hxc
          have hr3 := AW.raw_put_same hr2 (toVs [v0, .m m, v2, v3, v4, .t true])
          obtain ⟨F3, hF3, hxe⟩ := putU_inv hF2 hr3 hxd
          simp only [RU.ok.injEq] at hxe
          obtain ⟨rfl, rfl⟩ := hxe
          refine ⟨_, hF3.later (1 + 3 * fs.length), .inr ⟨hE, ?_⟩⟩
          have hfl : (toEs fs).all (fun p => fileOk S p.2) = true := List.all_eq_true.mpr h1
          have hlen : (toEs fs).length = fs.length := by simp [toEs]
          rw [hX, hes]
          simp only [toVs, toV, hpv] at hr1 ⊢
          simp only [xCrash, hr1, hm, hfl, c2, c3, c4, Bool.and_self, Bool.not_false, if_true, hlen]
          rfl
        · cases hxb2
      · cases hxa
    · cases hx
  · cases hx
end Go.Proofs.Ythclmjelknibhaa.Ev
/- Texts of the functions with a loop over a map: Names; and their table. -/
namespace Go.Proofs.Ythclmjelknibhaa.Ev
open Go Go.RowKit Go.Maps
open Go.Proofs (encStr)
set_option linter.unusedVariables false
set_option linter.unusedSimpArgs false

def keyU (k : List UInt8) : FV := .s (k.map UInt8.toNat)
theorem keyU_ok (k : List UInt8) : toV (keyU k) = encStr k := by
  simp only [keyU, toV, encStr, List.map_map]
  have : (UInt8.ofNat ∘ UInt8.toNat) = id := by funext x; simp
  rw [this]; simp
theorem keysU_ok (ks : List (List UInt8)) : toVs (ks.map keyU) = ks.map encStr := by
  rw [toVs_map, List.map_map]
  exact List.map_congr_left fun k _ => keyU_ok k
noncomputable def uNames : Fu := fun U n args F => match args with
  | [.np] => .ok .nl F
  | [.p d 0] => findH F.h d fun c el es fm ro => match c with
    | [_, .m m, _, _, _, _] => findM F.h m fun fs => match keysB (toEs fs) with
      | some ks => if ks.Nodup ∧ fs.length ≤ 1000 then newU [.m m] 76 1 F fun _ F1 => if ks = [] then .ok .nl F1 else newU ((sortB ks).map keyU) 9 1 F1 fun j F2 => .ok (.l j 0 ks.length ks.length) F2 else .no
      | none => .no
    | _ => .no
  | _ => .no
theorem okU_names {E : FuncId → Option XFunc} {X : Callee} {f : FuncId} (hE : E f = none) (hX : ∀ args S, X f args S = xNames args S) : OkU E X f uNames := by
  intro U C n args F S v R hU hF hx
  unfold uNames at hx
  split at hx
  · simp only [RU.ok.injEq] at hx
    obtain ⟨rfl, rfl⟩ := hx
    exact ⟨S, hF, .inr ⟨hE, by rw [hX]; rfl⟩⟩
  · rename_i d
    obtain ⟨c, el, es, fm, ro, ⟨r, hr1, hr2, _⟩, hxa⟩ := findH_inv hF.h hx
    clear hx
    split at hxa
    · rename_i v0 m v2 v3 v4 v5
      obtain ⟨fs, hm, hxb⟩ := findM_inv hF.h hxa
      clear hxa
      split at hxb
      · rename_i ks hks
        split at hxb
        · rename_i hc
          have c1 : S.cell d 1 = some (.map (some m)) := cell_of hr1 (by rw [hr2]; rfl) rfl
          have hlen : (toEs fs).length = fs.length := by simp [toEs]
          obtain ⟨F1, hF1, hxc⟩ := newU_inv hF hxb
          have hc' : ks.Nodup ∧ (toEs fs).length ≤ 1000 := ⟨hc.1, by rw [hlen]; exact hc.2⟩
          split at hxc
          · rename_i hk
            simp only [RU.ok.injEq] at hxc
            obtain ⟨rfl, rfl⟩ := hxc
            refine ⟨_, hF1, .inr ⟨hE, ?_⟩⟩
            rw [hX]
            simp only [toVs, toV, xNames, c1, hm, hks, hc', and_self, if_true, namesV, namesS]
            rw [if_pos hk]
          · rename_i hk
            obtain ⟨F2, hF2, hxd⟩ := newU_inv hF1 hxc
            simp only [RU.ok.injEq] at hxd
            obtain ⟨rfl, rfl⟩ := hxd
            rw [keysU_ok] at hF2
            refine ⟨_, hF2, .inr ⟨hE, ?_⟩⟩
            rw [hX]
            simp only [toVs, toV, xNames, c1, hm, hks, hc', and_self, if_true, namesV, hk, if_false, namesS]
            rfl
        · cases hxb
      · cases hxb
    · cases hxa
  · cases hx
end Go.Proofs.Ythclmjelknibhaa.Ev
