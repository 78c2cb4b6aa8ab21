/- Functions of the program, each told by what goes on behind each step: printed by a program of ours. -/
import Derived.Test.YthclmjelknibhaaDskX
import Derived.Test.YthclmjelknibhaaDskW
namespace Go.Proofs.Ythclmjelknibhaa.Ev
open Go Go.RowKit
set_option linter.unusedVariables false
set_option linter.constructorNameAsVariable false
noncomputable section
/-! assayer/assayerlaw28.LogPacks -/
def u13_0 (C : CU) := m20 fun a c d e f g h i j k l m o p q r s t w x S κ =>
 κ a c d e (.t false) g h i j k l m o p q r s t w x S
def u13_1 (C : CU) := m20 fun a c d e f g h i j k l m o p q r s t w x S κ =>
 uCall C 32 [] S fun v0 S =>
 uNot v0 S fun v1 S =>
 κ a c d e f g h i j k l m v1 p q r s t w x S
def u13_2 := k20 fun a c d e f g h i j k l m o p q r s t w x => o
def u13_3 (C : CU) := m20 fun a c d e f g h i j k l m o p q r s t w x S κ =>
 κ a c d e (.t false) g h i j k l m o p q r s t w x S
def u13_4 (C : CU) := m20 fun a c d e f g h i j k l m o p q r s t w x S κ =>
 uLen false a S fun v0 S =>
 uCmp (fun a b => ltN b a) .gtr v0 (.n 6) S fun v1 S =>
 eT v1 fun b => cn b
 (κ a c d e f g h i j k l m o (.t true) q r s t w x S)
 (uLen false c S fun v2 S =>
 uCmp (fun a b => ltN b a) .gtr v2 (.n 6) S fun v3 S =>
 κ a c d e f g h i j k l m o v3 q r s t w x S)
def u13_5 := k20 fun a c d e f g h i j k l m o p q r s t w x => p
def u13_6 (C : CU) := m20 fun a c d e f g h i j k l m o p q r s t w x S κ =>
 κ a c d e (.t true) g h i j k l m o p q r s t w x S
def u13_7 (C : CU) := m20 fun a c d e f g h i j k l m o p q r s t w x S κ =>
 uCall C 15 [(.n 4000)] S fun v0 S =>
 κ a c d e f v0 h i j k l m o p q r s t w x S
def u13_8 (C : CU) := m20 fun a c d e f g h i j k l m o p q r s t w x S κ =>
 uCall C 37 [g] S fun v0 S =>
 uExt 0 v0 S fun v1 S =>
 uExt 1 v0 S fun v2 S =>
 uExt 2 v0 S fun v3 S =>
 κ a c d e f g v1 i j k l m o p q r s t w x S
def u13_9 (C : CU) := m20 fun a c d e f g h i j k l m o p q r s t w x S κ =>
 uEqN 0 false h .np S fun v0 S =>
 κ a c d e f g h i j k l m o p v0 r s t w x S
def u13_10 := k20 fun a c d e f g h i j k l m o p q r s t w x => q
def u13_11 (C : CU) := m20 fun a c d e f g h i j k l m o p q r s t w x S κ =>
 κ a c d e (.t false) g h i j k l m o p q r s t w x S
def u13_12 (C : CU) := m20 fun a c d e f g h i j k l m o p q r s t w x S κ =>
 κ a c d e f g h (.n 0) j k l m o p q r s t w x S
def u13_13 (C : CU) := m20 fun a c d e f g h i j k l m o p q r s t w x S κ =>
 uLen false a S fun v0 S =>
 uLen false c S fun v1 S =>
 uAdd v0 v1 S fun v2 S =>
 uCmp ltN .lss i v2 S fun v3 S =>
 κ a c d e f g h i j k l m o p q v3 s t w x S
def u13_14 := k20 fun a c d e f g h i j k l m o p q r s t w x => r
def u13_15 (C : CU) := m20 fun a c d e f g h i j k l m o p q r s t w x S κ =>
 uLen false a S fun v0 S =>
 uCmp ltN .lss i v0 S fun v1 S =>
 eT v1 fun b => cn b
 (uIad 1 a i S fun v2 S =>
 uLd none v2 S fun v3 S =>
 uLen false v3 S fun v4 S =>
 uCmp (fun a b => ltN b a) .gtr v4 (.n 20) S fun v5 S =>
 eT v5 fun b => cn b
 (κ a c d e f g h i j k l m o p q r (.t true) t w x S)
 (uIad 1 a i S fun v6 S =>
 uLd none v6 S fun v7 S =>
 uCall C 38 [h, v7] S fun v8 S =>
 uEq true .neq v8 (.n 0) S fun v9 S =>
 κ a c d e f g h i j k l m o p q r v9 t w x S))
 (κ a c d e f g h i j k l m o p q r (.t false) t w x S)
def u13_16 := k20 fun a c d e f g h i j k l m o p q r s t w x => s
def u13_17 (C : CU) := m20 fun a c d e f g h i j k l m o p q r s t w x S κ =>
 uIad 1 a i S fun v0 S =>
 uLd none v0 S fun v1 S =>
 uLen false v1 S fun v2 S =>
 uCmp (fun a b => ltN b a) .gtr v2 (.n 20) S fun v3 S =>
 κ a c d e v3 g h i j k l m o p q r s t w x S
def u13_18 (C : CU) := m20 fun a c d e f g h i j k l m o p q r s t w x S κ =>
 uLen false c S fun v0 S =>
 uCmp ltN .lss i v0 S fun v1 S =>
 eT v1 fun b => cn b
 (uIad 1 c i S fun v2 S =>
 uLd none v2 S fun v3 S =>
 uLen false v3 S fun v4 S =>
 uCmp (fun a b => ltN b a) .gtr v4 (.n 20) S fun v5 S =>
 κ a c d e f g h i j k l m o p q r s v5 w x S)
 (κ a c d e f g h i j k l m o p q r s (.t false) w x S)
def u13_19 := k20 fun a c d e f g h i j k l m o p q r s t w x => t
def u13_20 (C : CU) := m20 fun a c d e f g h i j k l m o p q r s t w x S κ =>
 κ a c d e (.t true) g h i j k l m o p q r s t w x S
def u13_21 (C : CU) := m20 fun a c d e f g h i j k l m o p q r s t w x S κ =>
 uAdd i (.n 1) S fun v0 S =>
 κ a c d e f g h v0 j k l m o p q r s t w x S
def u13_22 (C : CU) (n : Nat) : CdU W20 := seqU (seqU (u13_13 C) (condU u13_14 (skipU) (exitU 0))) (seqU (blockU 1 (seqU (seqU (u13_15 C) (condU u13_16 (seqU (u13_17 C) (retU)) (skipU))) (seqU (u13_18 C) (condU u13_19 (seqU (u13_20 C) (retU)) (skipU))))) (u13_21 C))
def u13_23 (C : CU) := m20 fun a c d e f g h i j k l m o p q r s t w x S κ =>
 uQuo false .rem d (.b 5) S fun v0 S =>
 uCvI .i64 v0 S fun v1 S =>
 uCvI .i64 e S fun v2 S =>
 uCall C 16 [g, v1, v2] S fun v3 S =>
 κ a c d e f g h i j k l m o p q r s t w x S
def u13_24 (C : CU) := m20 fun a c d e f g h i j k l m o p q r s t w x S κ =>
 uCall C 40 [h, c] S fun v0 S =>
 κ a c d e f g h i v0 k l m o p q r s t w x S
def u13_25 (C : CU) := m20 fun a c d e f g h i j k l m o p q r s t w x S κ =>
 uCall C 19 [g] S fun v0 S =>
 κ a c d e f g h i j k l m o p q r s t w x S
def u13_26 (C : CU) := m20 fun a c d e f g h i j k l m o p q r s t w x S κ =>
 uCall C 37 [g] S fun v0 S =>
 uExt 0 v0 S fun v1 S =>
 uExt 1 v0 S fun v2 S =>
 uExt 2 v0 S fun v3 S =>
 κ a c d e f g h i j v1 v2 v3 o p q r s t w x S
def u13_27 (C : CU) := m20 fun a c d e f g h i j k l m o p q r s t w x S κ =>
 uEq true .neq m (.n 0) S fun v0 S =>
 eT v0 fun b => cn b
 (κ a c d e f g h i j k l m o p q r s t (.t true) x S)
 (uEqN 0 false k .np S fun v1 S =>
 κ a c d e f g h i j k l m o p q r s t v1 x S)
def u13_28 := k20 fun a c d e f g h i j k l m o p q r s t w x => w
def u13_29 (C : CU) := m20 fun a c d e f g h i j k l m o p q r s t w x S κ =>
 uEq false .eql m (.n 18) S fun v0 S =>
 κ a c d e v0 g h i j k l m o p q r s t w x S
def u13_30 (C : CU) := m20 fun a c d e f g h i j k l m o p q r s t w x S κ =>
 uEq false .eql j (.n 0) S fun v0 S =>
 κ a c d e f g h i j k l m o p q r s t w v0 S
def u13_31 := k20 fun a c d e f g h i j k l m o p q r s t w x => x
def u13_32 (C : CU) := m20 fun a c d e f g h i j k l m o p q r s t w x S κ =>
 uCall C 36 [l, c] S fun v0 S =>
 κ a c d e v0 g h i j k l m o p q r s t w x S
def u13_33 (C : CU) := m20 fun a c d e f g h i j k l m o p q r s t w x S κ =>
 uEq false .eql j (.n 18) S fun v0 S =>
 eT v0 fun b => cn b
 (uCall C 36 [l, a] S fun v1 S =>
 eT v1 fun b => cn b
 (uCall C 39 [k] S fun v2 S =>
 uLen false l S fun v3 S =>
 uEq false .eql v2 v3 S fun v4 S =>
 κ a c d e v4 g h i j k l m o p q r s t w x S)
 (uCall C 36 [l, c] S fun v2 S =>
 eT v2 fun b => cn b
 (uCall C 39 [k] S fun v3 S =>
 uLen false l S fun v4 S =>
 uEq false .eql v3 v4 S fun v5 S =>
 κ a c d e v5 g h i j k l m o p q r s t w x S)
 (κ a c d e (.t false) g h i j k l m o p q r s t w x S)))
 (κ a c d e (.t false) g h i j k l m o p q r s t w x S)
def u13r (v : W20) (S : FAW) : RU := W20.rec (motive := fun _ => RU) (fun a c d e f g h i j k l m o p q r s t w x => .ok f S) v
def u13b (C : CU) (n : Nat) : CdU W20 := seqU (u13_0 C) (seqU (seqU (u13_1 C) (condU u13_2 (seqU (u13_3 C) (retU)) (skipU))) (seqU (seqU (u13_4 C) (condU u13_5 (seqU (u13_6 C) (retU)) (skipU))) (seqU (u13_7 C) (seqU (u13_8 C) (seqU (seqU (u13_9 C) (condU u13_10 (seqU (u13_11 C) (retU)) (skipU))) (seqU (seqU (u13_12 C) (blockU 0 (loopU n (u13_22 C n)))) (seqU (u13_23 C) (seqU (u13_24 C) (seqU (u13_25 C) (seqU (u13_26 C) (seqU (seqU (u13_27 C) (condU u13_28 (seqU (u13_29 C) (retU)) (skipU))) (seqU (seqU (u13_30 C) (condU u13_31 (seqU (u13_32 C) (retU)) (skipU))) (seqU (u13_33 C) (retU))))))))))))))
def u13 : Fu := fun C n args S => u13b C n ((fu20 0 1 2 3 8 9 10 13 14 15 16 17 19 27 36 43 66 84 108 112).ent (argU args)) S fun o v S => exU o (u13r v S) (fun _ => .no) (u13r v S)
/-! assayer/disk.New -/
def u15_0 (C : CU) := m2 fun a c S κ =>
 κ a .np S
def u15_1 (C : CU) := m2 fun a c S κ =>
 uMM true [a, (.n 0)] S fun v0 S =>
 uMM false [v0, (.n 60000)] S fun v1 S =>
 uMkm none S fun v2 S =>
 uBuildF [(.n 0), .nm, (.t false), (.n 0), (.n 0), (.t false)] [(0, 1, v1), (1, 1, v2)] S fun v3 S =>
 uBox 78 6 v3 S fun v4 S =>
 κ a v4 S
def u15r (v : W2) (S : FAW) : RU := W2.rec (motive := fun _ => RU) (fun a c => .ok c S) v
def u15b (C : CU) (n : Nat) : CdU W2 := seqU (u15_0 C) (seqU (u15_1 C) (retU))
def u15 : Fu := fun C n args S => u15b C n ((fu2 0 2).ent (argU args)) S fun o v S => exU o (u15r v S) (fun _ => .no) (u15r v S)
/-! (*assayer/disk.Disk).Arm -/
def u16_0 (C : CU) := m4 fun a c d e S κ =>
 uEqN 0 true a .np S fun v0 S =>
 κ a c d v0 S
def u16_1 := k4 fun a c d e => e
def u16_2 (C : CU) := m4 fun a c d e S κ =>
 uCmp (fun a b => Nat.ble b a) .geq c (.n 0) S fun v0 S =>
 uNilc a S fun v1 S =>
 uFad 2 v1 S fun v2 S =>
 uSt 1 v2 v0 S fun v3 S =>
 uNilc a S fun v4 S =>
 uFad 3 v4 S fun v5 S =>
 uSt 1 v5 c S fun v6 S =>
 uNilc a S fun v7 S =>
 uFad 4 v7 S fun v8 S =>
 uSt 1 v8 d S fun v9 S =>
 κ a c d e S
def u16r (v : W4) (S : FAW) : RU := W4.rec (motive := fun _ => RU) (fun a c d e => .ok (.u []) S) v
def u16b (C : CU) (n : Nat) : CdU W4 := seqU (u16_0 C) (condU u16_1 (u16_2 C) (skipU))
def u16 : Fu := fun C n args S => u16b C n ((fu4 0 1 2 7).ent (argU args)) S fun o v S => exU o (u16r v S) (fun _ => .no) (u16r v S)
/-! (*assayer/disk.Disk).Append -/
def u17_0 (C : CU) := m11 fun a c d e f g h i j k l S κ =>
 uBox 23 1 a S fun v0 S =>
 uBox 9 1 c S fun v1 S =>
 uBox 28 1 d S fun v2 S =>
 κ a c d v0 v1 v2 (.n 0) i j k l S
def u17_1 (C : CU) := m11 fun a c d e f g h i j k l S κ =>
 uLd none e S fun v0 S =>
 uCall C 49 [v0] S fun v1 S =>
 κ a c d e f g h v1 j k l S
def u17_2 (C : CU) := m11 fun a c d e f g h i j k l S κ =>
 uEq true .neq i (.n 0) S fun v0 S =>
 κ a c d e f g h i j v0 l S
def u17_3 := k11 fun a c d e f g h i j k l => k
def u17_4 (C : CU) := m11 fun a c d e f g h i j k l S κ =>
 κ a c d e f g i i j k l S
def u17_5 (C : CU) := m11 fun a c d e f g h i j k l S κ =>
 uLd none g S fun v0 S =>
 uLen false v0 S fun v1 S =>
 uLd none e S fun v2 S =>
 uCall C 23 [v2] S fun v3 S =>
 uCmp (fun a b => ltN b a) .gtr v1 v3 S fun v4 S =>
 uLd none g S fun u _ => veqU u v0
 (κ a c d e f g h i j k v4 S)
def u17_6 := k11 fun a c d e f g h i j k l => l
def u17_7 (C : CU) := m11 fun a c d e f g h i j k l S κ =>
 κ a c d e f g (.n 17) i j k l S
def u17_8 (C : CU) := m11 fun a c d e f g h i j k l S κ =>
 uMkf 50 [] [e, f, g] S fun v0 S =>
 κ a c d e f g h i v0 k l S
def u17_9 (C : CU) := m11 fun a c d e f g h i j k l S κ =>
 uLd none e S fun v0 S =>
 uCall C 52 [v0, j, j] S fun v1 S =>
 κ a c d e f g v1 i j k l S
def u17r (v : W11) (S : FAW) : RU := W11.rec (motive := fun _ => RU) (fun a c d e f g h i j k l => .ok h S) v
def u17b (C : CU) (n : Nat) : CdU W11 := seqU (u17_0 C) (seqU (seqU (u17_1 C) (seqU (u17_2 C) (condU u17_3 (seqU (u17_4 C) (retU)) (skipU)))) (seqU (seqU (u17_5 C) (condU u17_6 (seqU (u17_7 C) (retU)) (skipU))) (seqU (u17_8 C) (seqU (u17_9 C) (retU)))))
def u17 : Fu := fun C n args S => u17b C n ((fu11 0 1 2 3 4 5 6 7 8 12 18).ent (argU args)) S fun o v S => exU o (u17r v S) (fun _ => .no) (u17r v S)
/-! (*assayer/disk.Disk).Sync -/
def u18_0 (C : CU) := m7 fun a c d e f g h S κ =>
 uBox 23 1 a S fun v0 S =>
 uBox 9 1 c S fun v1 S =>
 κ a c v0 v1 (.n 0) g h S
def u18_1 (C : CU) := m7 fun a c d e f g h S κ =>
 uLd none d S fun v0 S =>
 uLd none e S fun v1 S =>
 uCall C 53 [v0, v1] S fun v2 S =>
 κ a c d e f v2 h S
def u18_2 (C : CU) := m7 fun a c d e f g h S κ =>
 uEq true .neq g (.n 0) S fun v0 S =>
 κ a c d e f g v0 S
def u18_3 := k7 fun a c d e f g h => h
def u18_4 (C : CU) := m7 fun a c d e f g h S κ =>
 κ a c d e g g h S
def u18_5 (C : CU) := m7 fun a c d e f g h S κ =>
 uLd none d S fun v0 S =>
 uMkf 54 [] [d, e] S fun v1 S =>
 uCall C 52 [v0, v1, (.f 55 [] [])] S fun v2 S =>
 κ a c d e v2 g h S
def u18r (v : W7) (S : FAW) : RU := W7.rec (motive := fun _ => RU) (fun a c d e f g h => .ok f S) v
def u18b (C : CU) (n : Nat) : CdU W7 := seqU (u18_0 C) (seqU (seqU (u18_1 C) (seqU (u18_2 C) (condU u18_3 (seqU (u18_4 C) (retU)) (skipU)))) (seqU (u18_5 C) (retU)))
def u18 : Fu := fun C n args S => u18b C n ((fu7 0 1 2 3 4 5 10).ent (argU args)) S fun o v S => exU o (u18r v S) (fun _ => .no) (u18r v S)
/-! (*assayer/disk.Disk).Read -/
def u20_0 (C : CU) := m6 fun a c d e f g S κ =>
 κ a c .nl (.n 0) f g S
def u20_1 (C : CU) := m6 fun a c d e f g S κ =>
 uCall C 53 [a, c] S fun v0 S =>
 κ a c d e v0 g S
def u20_2 (C : CU) := m6 fun a c d e f g S κ =>
 uEq true .neq f (.n 0) S fun v0 S =>
 κ a c d e f v0 S
def u20_3 := k6 fun a c d e f g => g
def u20_4 (C : CU) := m6 fun a c d e f g S κ =>
 κ a c .nl f f g S
def u20_5 (C : CU) := m6 fun a c d e f g S κ =>
 uGet 1 a S fun v2 S =>
 uMlkF (.one (.str)) (.a [.nl, (.n 0)]) false v2 c S fun v3 S =>
 uFld none 0 v3 S fun v4 S =>
 uCall C 56 [v4] S fun v5 S =>
 κ a c v5 (.n 0) f g S
def u20r (v : W6) (S : FAW) : RU := W6.rec (motive := fun _ => RU) (fun a c d e f g => .ok (.u [d, e]) S) v
def u20b (C : CU) (n : Nat) : CdU W6 := seqU (u20_0 C) (seqU (seqU (u20_1 C) (seqU (u20_2 C) (condU u20_3 (seqU (u20_4 C) (retU)) (skipU)))) (seqU (u20_5 C) (retU)))
def u20 : Fu := fun C n args S => u20b C n ((fu6 0 1 4 5 6 11).ent (argU args)) S fun o v S => exU o (u20r v S) (fun _ => .no) (u20r v S)
/-! (*assayer/disk.Disk).Rename -/
def u21_0 (C : CU) := m9 fun a c d e f g h i j S κ =>
 uBox 23 1 a S fun v0 S =>
 uBox 9 1 c S fun v1 S =>
 uBox 9 1 d S fun v2 S =>
 κ a c d v0 v1 v2 (.n 0) i j S
def u21_1 (C : CU) := m9 fun a c d e f g h i j S κ =>
 uLd none e S fun v0 S =>
 uLd none f S fun v1 S =>
 uCall C 53 [v0, v1] S fun v2 S =>
 κ a c d e f g h v2 j S
def u21_2 (C : CU) := m9 fun a c d e f g h i j S κ =>
 uEq true .neq i (.n 0) S fun v0 S =>
 κ a c d e f g h i v0 S
def u21_3 := k9 fun a c d e f g h i j => j
def u21_4 (C : CU) := m9 fun a c d e f g h i j S κ =>
 κ a c d e f g i i j S
def u21_5 (C : CU) := m9 fun a c d e f g h i j S κ =>
 uLd none e S fun v0 S =>
 uMkf 57 [] [e, f, g] S fun v1 S =>
 uCall C 52 [v0, v1, (.f 58 [] [])] S fun v2 S =>
 κ a c d e f g v2 i j S
def u21r (v : W9) (S : FAW) : RU := W9.rec (motive := fun _ => RU) (fun a c d e f g h i j => .ok h S) v
def u21b (C : CU) (n : Nat) : CdU W9 := seqU (u21_0 C) (seqU (seqU (u21_1 C) (seqU (u21_2 C) (condU u21_3 (seqU (u21_4 C) (retU)) (skipU)))) (seqU (u21_5 C) (retU)))
def u21 : Fu := fun C n args S => u21b C n ((fu9 0 1 2 3 4 5 6 7 12).ent (argU args)) S fun o v S => exU o (u21r v S) (fun _ => .no) (u21r v S)
/-! (*assayer/disk.Disk).Remove -/
def u26_0 (C : CU) := m7 fun a c d e f g h S κ =>
 uBox 23 1 a S fun v0 S =>
 uBox 9 1 c S fun v1 S =>
 κ a c v0 v1 (.n 0) g h S
def u26_1 (C : CU) := m7 fun a c d e f g h S κ =>
 uLd none d S fun v0 S =>
 uLd none e S fun v1 S =>
 uCall C 53 [v0, v1] S fun v2 S =>
 κ a c d e f v2 h S
def u26_2 (C : CU) := m7 fun a c d e f g h S κ =>
 uEq true .neq g (.n 0) S fun v0 S =>
 κ a c d e f g v0 S
def u26_3 := k7 fun a c d e f g h => h
def u26_4 (C : CU) := m7 fun a c d e f g h S κ =>
 κ a c d e g g h S
def u26_5 (C : CU) := m7 fun a c d e f g h S κ =>
 uLd none d S fun v0 S =>
 uMkf 62 [] [d, e] S fun v1 S =>
 uCall C 52 [v0, v1, (.f 63 [] [])] S fun v2 S =>
 κ a c d e v2 g h S
def u26r (v : W7) (S : FAW) : RU := W7.rec (motive := fun _ => RU) (fun a c d e f g h => .ok f S) v
def u26b (C : CU) (n : Nat) : CdU W7 := seqU (u26_0 C) (seqU (seqU (u26_1 C) (seqU (u26_2 C) (condU u26_3 (seqU (u26_4 C) (retU)) (skipU)))) (seqU (u26_5 C) (retU)))
def u26 : Fu := fun C n args S => u26b C n ((fu7 0 1 2 3 4 5 10).ent (argU args)) S fun o v S => exU o (u26r v S) (fun _ => .no) (u26r v S)
/-! (*assayer/disk.Disk).Dead -/
def u27_0 (C : CU) := m2 fun a c S κ =>
 κ a (.t false) S
def u27_1 (C : CU) := m2 fun a c S κ =>
 uEqN 0 true a .np S fun v0 S =>
 eT v0 fun b => cn b
 (uGet 5 a S fun v3 S =>
 κ a v3 S)
 (κ a (.t false) S)
def u27r (v : W2) (S : FAW) : RU := W2.rec (motive := fun _ => RU) (fun a c => .ok c S) v
def u27b (C : CU) (n : Nat) : CdU W2 := seqU (u27_0 C) (seqU (u27_1 C) (retU))
def u27 : Fu := fun C n args S => u27b C n ((fu2 0 2).ent (argU args)) S fun o v S => exU o (u27r v S) (fun _ => .no) (u27r v S)
/-! assayer/assayerlaw28.begun -/
def u32_0 (C : CU) := m14 fun a c d e f g h i j k l m o p S κ =>
 κ (.t false) c d e f g h i j k l m o p S
def u32_1 (C : CU) := m14 fun a c d e f g h i j k l m o p S κ =>
 uCall C 15 [(.n 200)] S fun v0 S =>
 κ a v0 d e f g h i j k l m o p S
def u32_2 (C : CU) := m14 fun a c d e f g h i j k l m o p S κ =>
 uCall C 37 [c] S fun v0 S =>
 uExt 0 v0 S fun v1 S =>
 uExt 1 v0 S fun v2 S =>
 uExt 2 v0 S fun v3 S =>
 κ a c v1 v2 v3 g h i j k l m o p S
def u32_3 (C : CU) := m14 fun a c d e f g h i j k l m o p S κ =>
 uEq true .neq f (.n 0) S fun v0 S =>
 eT v0 fun b => cn b
 (κ a c d e f g h i j k l m (.t true) p S)
 (uEqN 0 false d .np S fun v1 S =>
 eT v1 fun b => cn b
 (κ a c d e f g h i j k l m (.t true) p S)
 (uLen false e S fun v2 S =>
 uEq true .neq v2 (.n 0) S fun v3 S =>
 κ a c d e f g h i j k l m v3 p S))
def u32_4 := k14 fun a c d e f g h i j k l m o p => o
def u32_5 (C : CU) := m14 fun a c d e f g h i j k l m o p S κ =>
 κ (.t false) c d e f g h i j k l m o p S
def u32_6 (C : CU) := m14 fun a c d e f g h i j k l m o p S κ =>
 uLitF 5 1 [(.b 0)] 1 [(0, 1, (.b 97))] S fun v0 S =>
 uMark v0 S fun v1 S =>
 uCall C 38 [d, v1] S fun v2 S =>
 κ a c d e f v2 h i j k l m o p S
def u32_7 (C : CU) := m14 fun a c d e f g h i j k l m o p S κ =>
 uCall C 37 [c] S fun v0 S =>
 uExt 0 v0 S fun v1 S =>
 uExt 1 v0 S fun v2 S =>
 uExt 2 v0 S fun v3 S =>
 κ a c d e f g v1 v2 v3 k l m o p S
def u32_8 (C : CU) := m14 fun a c d e f g h i j k l m o p S κ =>
 uEqN 0 false h .np S fun v0 S =>
 eT v0 fun b => cn b
 (κ a c d e f g h i j k l m o (.t true) S)
 (uEq true .neq j (.n 0) S fun v1 S =>
 κ a c d e f g h i j k l m o v1 S)
def u32_9 := k14 fun a c d e f g h i j k l m o p => p
def u32_10 (C : CU) := m14 fun a c d e f g h i j k l m o p S κ =>
 κ (.t false) c d e f g h i j k l m o p S
def u32_11 (C : CU) := m14 fun a c d e f g h i j k l m o p S κ =>
 uLitF 5 1 [(.b 0)] 1 [(0, 1, (.b 98))] S fun v0 S =>
 uMark v0 S fun v1 S =>
 uLitF 5 1 [(.b 0)] 1 [(0, 1, (.b 99))] S fun v2 S =>
 uMark v2 S fun v3 S =>
 uLitF 28 1 [.nl] 2 [(0, 1, v1), (1, 1, v3)] S fun v4 S =>
 uCall C 40 [h, v4] S fun v5 S =>
 κ a c d e f g h i j v5 l m o p S
def u32_12 (C : CU) := m14 fun a c d e f g h i j k l m o p S κ =>
 uLitF 5 1 [(.b 0)] 1 [(0, 1, (.b 120))] S fun v0 S =>
 uMark v0 S fun v1 S =>
 uCall C 33 [v1] S fun v2 S =>
 uCall C 34 [v2] S fun v3 S =>
 uExt 0 v3 S fun v4 S =>
 uExt 1 v3 S fun v5 S =>
 κ a c d e f g h i j k v4 v5 o p S
def u32_13 (C : CU) := m14 fun a c d e f g h i j k l m o p S κ =>
 uEq false .eql g (.n 0) S fun v0 S =>
 eT v0 fun b => cn b
 (uLen false i S fun v1 S =>
 uEq false .eql v1 (.n 1) S fun v2 S =>
 eT v2 fun b => cn b
 (uIad 1 i (.n 0) S fun v3 S =>
 uLd none v3 S fun v4 S =>
 uCvBS v4 S fun v5 S =>
 uEq false .eql v5 (.s [97]) S fun v6 S =>
 eT v6 fun b => cn b
 (uEq false .eql k (.n 0) S fun v7 S =>
 eT v7 fun b => cn b
 (uCall C 39 [h] S fun v8 S =>
 uEq false .eql v8 (.n 2) S fun v9 S =>
 eT v9 fun b => cn b
 (uLen false l S fun v10 S =>
 uEq false .eql v10 (.n 1) S fun v11 S =>
 eT v11 fun b => cn b
 (uEq false .eql m (.n 8) S fun v12 S =>
 κ v12 c d e f g h i j k l m o p S)
 (κ (.t false) c d e f g h i j k l m o p S))
 (κ (.t false) c d e f g h i j k l m o p S))
 (κ (.t false) c d e f g h i j k l m o p S))
 (κ (.t false) c d e f g h i j k l m o p S))
 (κ (.t false) c d e f g h i j k l m o p S))
 (κ (.t false) c d e f g h i j k l m o p S)
def u32r (v : W14) (S : FAW) : RU := W14.rec (motive := fun _ => RU) (fun a c d e f g h i j k l m o p => .ok a S) v
def u32b (C : CU) (n : Nat) : CdU W14 := seqU (u32_0 C) (seqU (u32_1 C) (seqU (u32_2 C) (seqU (seqU (u32_3 C) (condU u32_4 (seqU (u32_5 C) (retU)) (skipU))) (seqU (u32_6 C) (seqU (u32_7 C) (seqU (seqU (u32_8 C) (condU u32_9 (seqU (u32_10 C) (retU)) (skipU))) (seqU (u32_11 C) (seqU (u32_12 C) (seqU (u32_13 C) (retU))))))))))
def u32 : Fu := fun C n args S => u32b C n ((fu14 0 1 2 3 4 5 6 7 8 9 10 11 29 45).ent (argU args)) S fun o v S => exU o (u32r v S) (fun _ => .no) (u32r v S)
/-! assayer/assayerref1.Seal -/
def u33_0 (C : CU) := m3 fun a c d S κ =>
 κ a .nl d S
def u33_1 (C : CU) := m3 fun a c d S κ =>
 uLen false a S fun v0 S =>
 uCmp (fun a b => Nat.ble b a) .geq v0 (.n 16777216) S fun v1 S =>
 κ a c v1 S
def u33_2 := k3 fun a c d => d
def u33_3 (C : CU) := m3 fun a c d S κ =>
 κ a .nl d S
def u33_4 (C : CU) := m3 fun a c d S κ =>
 uLen false a S fun v0 S =>
 uCvI .u64 v0 S fun v1 S =>
 uCall C 70 [.nl, v1, (.n 3)] S fun v2 S =>
 uApp 5 1 1 v2 a S fun v3 S =>
 uCall C 71 [a] S fun v4 S =>
 uCvI .u64 v4 S fun v5 S =>
 uCall C 70 [v3, v5, (.n 4)] S fun v6 S =>
 κ a v6 d S
def u33r (v : W3) (S : FAW) : RU := W3.rec (motive := fun _ => RU) (fun a c d => .ok c S) v
def u33b (C : CU) (n : Nat) : CdU W3 := seqU (u33_0 C) (seqU (seqU (u33_1 C) (condU u33_2 (seqU (u33_3 C) (retU)) (skipU))) (seqU (u33_4 C) (retU)))
def u33 : Fu := fun C n args S => u33b C n ((fu3 0 2 5).ent (argU args)) S fun o v S => exU o (u33r v S) (fun _ => .no) (u33r v S)
/-! assayer/log.Scan -/
def u34_0 (C : CU) := m7 fun a c d e f g h S κ =>
 κ a .nl (.n 0) e f g h S
def u34_1 (C : CU) := m7 fun a c d e f g h S κ =>
 uSlV 1 a (some d) none none S fun v0 S =>
 uCall C 72 [v0] S fun v1 S =>
 uExt 0 v1 S fun v2 S =>
 uExt 1 v1 S fun v3 S =>
 uExt 2 v1 S fun v4 S =>
 κ a c d v2 v3 v4 h S
def u34_2 (C : CU) := m7 fun a c d e f g h S κ =>
 uEq true .neq g (.n 0) S fun v0 S =>
 κ a c d e f g v0 S
def u34_3 := k7 fun a c d e f g h => h
def u34_4 (C : CU) := m7 fun a c d e f g h S κ =>
 κ a c d e f g h S
def u34_5 (C : CU) := m7 fun a c d e f g h S κ =>
 uLitF 28 1 [.nl] 1 [(0, 1, e)] S fun v0 S =>
 uApp 28 1 24 c v0 S fun v1 S =>
 uAdd d f S fun v2 S =>
 κ a v1 v2 e f g h S
def u34_6 (C : CU) (n : Nat) : CdU W7 := blockU 1 (seqU (u34_1 C) (seqU (seqU (u34_2 C) (condU u34_3 (seqU (u34_4 C) (retU)) (skipU))) (u34_5 C)))
def u34r (v : W7) (S : FAW) : RU := W7.rec (motive := fun _ => RU) (fun a c d e f g h => .ok (.u [c, d]) S) v
def u34b (C : CU) (n : Nat) : CdU W7 := seqU (u34_0 C) (blockU 0 (loopU n (u34_6 C n)))
def u34 : Fu := fun C n args S => u34b C n ((fu7 0 2 3 4 5 6 16).ent (argU args)) S fun o v S => exU o (u34r v S) (fun _ => .no) (u34r v S)
/-! assayer/assayerref27.Scan -/
def u35_0 (C : CU) := m9 fun a c d e f g h i j S κ =>
 κ a .nl (.n 0) e f g h i j S
def u35_1 (C : CU) := m9 fun a c d e f g h i j S κ =>
 κ a c d .nl f g h i j S
def u35_2 (C : CU) := m9 fun a c d e f g h i j S κ =>
 κ a c d e (.n 0) g h i j S
def u35_3 (C : CU) := m9 fun a c d e f g h i j S κ =>
 uSlV 1 a (some f) none none S fun v0 S =>
 uCall C 73 [v0] S fun v1 S =>
 uExt 0 v1 S fun v2 S =>
 uExt 1 v1 S fun v3 S =>
 uExt 2 v1 S fun v4 S =>
 κ a c d e f v2 v3 v4 j S
def u35_4 (C : CU) := m9 fun a c d e f g h i j S κ =>
 uEq true .neq i (.n 0) S fun v0 S =>
 κ a c d e f g h i v0 S
def u35_5 := k9 fun a c d e f g h i j => j
def u35_6 (C : CU) := m9 fun a c d e f g h i j S κ =>
 κ a e f e f g h i j S
def u35_7 (C : CU) := m9 fun a c d e f g h i j S κ =>
 uLitF 28 1 [.nl] 1 [(0, 1, g)] S fun v0 S =>
 uApp 28 1 24 e v0 S fun v1 S =>
 uAdd f h S fun v2 S =>
 κ a c d v1 v2 g h i j S
def u35_8 (C : CU) (n : Nat) : CdU W9 := blockU 1 (seqU (u35_3 C) (seqU (seqU (u35_4 C) (condU u35_5 (seqU (u35_6 C) (retU)) (skipU))) (u35_7 C)))
def u35r (v : W9) (S : FAW) : RU := W9.rec (motive := fun _ => RU) (fun a c d e f g h i j => .ok (.u [c, d]) S) v
def u35b (C : CU) (n : Nat) : CdU W9 := seqU (u35_0 C) (seqU (u35_1 C) (seqU (u35_2 C) (blockU 0 (loopU n (u35_8 C n)))))
def u35 : Fu := fun C n args S => u35b C n ((fu9 0 2 3 4 5 6 7 8 18).ent (argU args)) S fun o v S => exU o (u35r v S) (fun _ => .no) (u35r v S)
/-! assayer/assayerref27.SameRecords -/
def u36_0 (C : CU) := m7 fun a c d e f g h S κ =>
 κ a c (.t false) e f g h S
def u36_1 (C : CU) := m7 fun a c d e f g h S κ =>
 uLen false a S fun v0 S =>
 uLen false c S fun v1 S =>
 uEq true .neq v0 v1 S fun v2 S =>
 κ a c d e v2 g h S
def u36_2 := k7 fun a c d e f g h => f
def u36_3 (C : CU) := m7 fun a c d e f g h S κ =>
 κ a c (.t false) e f g h S
def u36_4 (C : CU) := m7 fun a c d e f g h S κ =>
 κ a c d (.n 0) f g h S
def u36_5 (C : CU) := m7 fun a c d e f g h S κ =>
 uLen false a S fun v0 S =>
 uCmp ltN .lss e v0 S fun v1 S =>
 κ a c d e f v1 h S
def u36_6 := k7 fun a c d e f g h => g
def u36_7 (C : CU) := m7 fun a c d e f g h S κ =>
 uIad 1 a e S fun v0 S =>
 uLd none v0 S fun v1 S =>
 uCvBS v1 S fun v2 S =>
 uIad 1 c e S fun v3 S =>
 uLd none v3 S fun v4 S =>
 uCvBS v4 S fun v5 S =>
 uEq true .neq v2 v5 S fun v6 S =>
 κ a c d e f g v6 S
def u36_8 := k7 fun a c d e f g h => h
def u36_9 (C : CU) := m7 fun a c d e f g h S κ =>
 κ a c (.t false) e f g h S
def u36_10 (C : CU) := m7 fun a c d e f g h S κ =>
 uAdd e (.n 1) S fun v0 S =>
 κ a c d v0 f g h S
def u36_11 (C : CU) (n : Nat) : CdU W7 := seqU (seqU (u36_5 C) (condU u36_6 (skipU) (exitU 0))) (seqU (blockU 1 (seqU (u36_7 C) (condU u36_8 (seqU (u36_9 C) (retU)) (skipU)))) (u36_10 C))
def u36_12 (C : CU) := m7 fun a c d e f g h S κ =>
 κ a c (.t true) e f g h S
def u36r (v : W7) (S : FAW) : RU := W7.rec (motive := fun _ => RU) (fun a c d e f g h => .ok d S) v
def u36b (C : CU) (n : Nat) : CdU W7 := seqU (u36_0 C) (seqU (seqU (u36_1 C) (condU u36_2 (seqU (u36_3 C) (retU)) (skipU))) (seqU (seqU (u36_4 C) (blockU 0 (loopU n (u36_11 C n)))) (seqU (u36_12 C) (retU))))
def u36 : Fu := fun C n args S => u36b C n ((fu7 0 1 4 5 10 14 27).ent (argU args)) S fun o v S => exU o (u36r v S) (fun _ => .no) (u36r v S)
/-! assayer/log.Open -/
def u37_0 (C : CU) := m14 fun a c d e f g h i j k l m o p S κ =>
 κ a .np .nl (.n 0) f g h i j k l m o p S
def u37_1 (C : CU) := m14 fun a c d e f g h i j k l m o p S κ =>
 uEqN 0 false a .np S fun v0 S =>
 κ a c d e f g h i v0 k l m o p S
def u37_2 := k14 fun a c d e f g h i j k l m o p => j
def u37_3 (C : CU) := m14 fun a c d e f g h i j k l m o p S κ =>
 κ a .np .nl (.n 1) f g h i j k l m o p S
def u37_4 (C : CU) := m14 fun a c d e f g h i j k l m o p S κ =>
 uCall C 27 [a] S fun v0 S =>
 κ a c d e f g h i j v0 l m o p S
def u37_5 := k14 fun a c d e f g h i j k l m o p => k
def u37_6 (C : CU) := m14 fun a c d e f g h i j k l m o p S κ =>
 κ a .np .nl (.n 18) f g h i j k l m o p S
def u37_7 (C : CU) := m14 fun a c d e f g h i j k l m o p S κ =>
 uBuildF [.np, (.n 0), (.n 0)] [(0, 1, a)] S fun v0 S =>
 uBox 100 3 v0 S fun v1 S =>
 κ a v1 d e f g h i j k l m o p S
def u37_8 (C : CU) := m14 fun a c d e f g h i j k l m o p S κ =>
 uCall C 74 [c] S fun v0 S =>
 κ a c d e v0 g h i j k l m o p S
def u37_9 (C : CU) := m14 fun a c d e f g h i j k l m o p S κ =>
 uEq true .neq f (.n 0) S fun v0 S =>
 κ a c d e f g h i j k v0 m o p S
def u37_10 := k14 fun a c d e f g h i j k l m o p => l
def u37_11 (C : CU) := m14 fun a c d e f g h i j k l m o p S κ =>
 κ a .np .nl f f g h i j k l m o p S
def u37_12 (C : CU) := m14 fun a c d e f g h i j k l m o p S κ =>
 uCall C 20 [a, (.s [108, 111, 103])] S fun v0 S =>
 uExt 0 v0 S fun v1 S =>
 uExt 1 v0 S fun v2 S =>
 κ a c d v2 f v1 h i j k l m o p S
def u37_13 (C : CU) := m14 fun a c d e f g h i j k l m o p S κ =>
 uEq true .neq e (.n 0) S fun v0 S =>
 eT v0 fun b => cn b
 (uEq true .neq e (.n 15) S fun v1 S =>
 κ a c d e f g h i j k l v1 o p S)
 (κ a c d e f g h i j k l (.t false) o p S)
def u37_14 := k14 fun a c d e f g h i j k l m o p => m
def u37_15 (C : CU) := m14 fun a c d e f g h i j k l m o p S κ =>
 κ a .np .nl e f g h i j k l m o p S
def u37_16 (C : CU) := m14 fun a c d e f g h i j k l m o p S κ =>
 uCall C 34 [g] S fun v0 S =>
 uExt 0 v0 S fun v1 S =>
 uExt 1 v0 S fun v2 S =>
 κ a c v1 e f g v2 i j k l m o p S
def u37_17 (C : CU) := m14 fun a c d e f g h i j k l m o p S κ =>
 uLen false d S fun v0 S =>
 uNilc c S fun v1 S =>
 uFad 1 v1 S fun v2 S =>
 uSt 1 v2 v0 S fun v3 S =>
 uNilc c S fun v4 S =>
 uFad 2 v4 S fun v5 S =>
 uSt 1 v5 h S fun v6 S =>
 κ a c d e f g h i j k l m o p S
def u37_18 (C : CU) := m14 fun a c d e f g h i j k l m o p S κ =>
 uLen false g S fun v0 S =>
 uCmp ltN .lss h v0 S fun v1 S =>
 κ a c d e f g h i j k l m v1 p S
def u37_19 := k14 fun a c d e f g h i j k l m o p => o
def u37_20 (C : CU) := m14 fun a c d e f g h i j k l m o p S κ =>
 uCall C 40 [c, d] S fun v0 S =>
 κ a c d e f g h v0 j k l m o p S
def u37_21 (C : CU) := m14 fun a c d e f g h i j k l m o p S κ =>
 uEq true .neq i (.n 0) S fun v0 S =>
 κ a c d e f g h i j k l m o v0 S
def u37_22 := k14 fun a c d e f g h i j k l m o p => p
def u37_23 (C : CU) := m14 fun a c d e f g h i j k l m o p S κ =>
 κ a .np .nl i f g h i j k l m o p S
def u37_24 (C : CU) := m14 fun a c d e f g h i j k l m o p S κ =>
 κ a c d (.n 0) f g h i j k l m o p S
def u37r (v : W14) (S : FAW) : RU := W14.rec (motive := fun _ => RU) (fun a c d e f g h i j k l m o p => .ok (.u [c, d, e]) S) v
def u37b (C : CU) (n : Nat) : CdU W14 := seqU (u37_0 C) (seqU (blockU 0 (seqU (u37_1 C) (condU u37_2 (seqU (u37_3 C) (retU)) (seqU (u37_4 C) (condU u37_5 (seqU (u37_6 C) (retU)) (skipU)))))) (seqU (u37_7 C) (seqU (seqU (u37_8 C) (seqU (u37_9 C) (condU u37_10 (seqU (u37_11 C) (retU)) (skipU)))) (seqU (u37_12 C) (seqU (seqU (u37_13 C) (condU u37_14 (seqU (u37_15 C) (retU)) (skipU))) (seqU (u37_16 C) (seqU (u37_17 C) (seqU (seqU (u37_18 C) (condU u37_19 (seqU (u37_20 C) (seqU (u37_21 C) (condU u37_22 (seqU (u37_23 C) (retU)) (skipU)))) (skipU))) (seqU (u37_24 C) (retU))))))))))
def u37 : Fu := fun C n args S => u37b C n ((fu14 0 2 3 4 5 6 7 8 9 12 21 33 52 57).ent (argU args)) S fun o v S => exU o (u37r v S) (fun _ => .no) (u37r v S)
/-! (*assayer/log.Log).Append -/
def u38_0 (C : CU) := m12 fun a c d e f g h i j k l m S κ =>
 κ a c (.n 0) e f g h i j k l m S
def u38_1 (C : CU) := m12 fun a c d e f g h i j k l m S κ =>
 uEqN 0 false a .np S fun v0 S =>
 κ a c d e f g v0 i j k l m S
def u38_2 := k12 fun a c d e f g h i j k l m => h
def u38_3 (C : CU) := m12 fun a c d e f g h i j k l m S κ =>
 κ a c (.n 1) e f g h i j k l m S
def u38_4 (C : CU) := m12 fun a c d e f g h i j k l m S κ =>
 uCall C 75 [c] S fun v0 S =>
 κ a c d v0 f g h i j k l m S
def u38_5 (C : CU) := m12 fun a c d e f g h i j k l m S κ =>
 uGet 1 a S fun v2 S =>
 uCmp (fun a b => Nat.ble b a) .geq v2 (.n 200) S fun v3 S =>
 eT v3 fun b => cn b
 (κ a c d e f g h (.t true) j k l m S)
 (uLen false e S fun v4 S =>
 uEq false .eql v4 (.n 0) S fun v5 S =>
 κ a c d e f g h v5 j k l m S)
def u38_6 := k12 fun a c d e f g h i j k l m => i
def u38_7 (C : CU) := m12 fun a c d e f g h i j k l m S κ =>
 κ a c (.n 17) e f g h i j k l m S
def u38_8 (C : CU) := m12 fun a c d e f g h i j k l m S κ =>
 uGet 0 a S fun v2 S =>
 uCall C 27 [v2] S fun v3 S =>
 κ a c d e f g h i v3 k l m S
def u38_9 := k12 fun a c d e f g h i j k l m => j
def u38_10 (C : CU) := m12 fun a c d e f g h i j k l m S κ =>
 κ a c (.n 18) e f g h i j k l m S
def u38_11 (C : CU) := m12 fun a c d e f g h i j k l m S κ =>
 uGet 0 a S fun v2 S =>
 uLen false e S fun v3 S =>
 uMul (.n 2) v3 S fun v4 S =>
 uNilc a S fun v5 S =>
 uFad 2 v5 S fun v6 S =>
 uLd none v6 S fun v7 S =>
 uAdd v4 v7 S fun v8 S =>
 uCall C 23 [v2] S fun v9 S =>
 uCmp ltN .lss v9 v8 S fun v10 S =>
 uLd none v6 S fun u _ => veqU u v7
 (κ a c d e f g h i j v10 l m S)
def u38_12 := k12 fun a c d e f g h i j k l m => k
def u38_13 (C : CU) := m12 fun a c d e f g h i j k l m S κ =>
 κ a c (.n 17) e f g h i j k l m S
def u38_14 (C : CU) := m12 fun a c d e f g h i j k l m S κ =>
 uGet 0 a S fun v2 S =>
 uCall C 17 [v2, (.s [108, 111, 103]), e] S fun v3 S =>
 κ a c d e v3 g h i j k l m S
def u38_15 (C : CU) := m12 fun a c d e f g h i j k l m S κ =>
 uEq true .neq f (.n 0) S fun v0 S =>
 κ a c d e f g h i j k v0 m S
def u38_16 := k12 fun a c d e f g h i j k l m => l
def u38_17 (C : CU) := m12 fun a c d e f g h i j k l m S κ =>
 κ a c f e f g h i j k l m S
def u38_18 (C : CU) := m12 fun a c d e f g h i j k l m S κ =>
 uGet 0 a S fun v2 S =>
 uCall C 18 [v2, (.s [108, 111, 103])] S fun v3 S =>
 κ a c d e f v3 h i j k l m S
def u38_19 (C : CU) := m12 fun a c d e f g h i j k l m S κ =>
 uEq true .neq g (.n 0) S fun v0 S =>
 κ a c d e f g h i j k l v0 S
def u38_20 := k12 fun a c d e f g h i j k l m => m
def u38_21 (C : CU) := m12 fun a c d e f g h i j k l m S κ =>
 κ a c g e f g h i j k l m S
def u38_22 (C : CU) := m12 fun a c d e f g h i j k l m S κ =>
 uGet 1 a S fun v2 S =>
 uAdd v2 (.n 1) S fun v3 S =>
 uNilc a S fun v4 S =>
 uFad 1 v4 S fun v5 S =>
 uSt 1 v5 v3 S fun v6 S =>
 κ a c d e f g h i j k l m S
def u38_23 (C : CU) := m12 fun a c d e f g h i j k l m S κ =>
 uGet 2 a S fun v2 S =>
 uLen false e S fun v3 S =>
 uAdd v2 v3 S fun v4 S =>
 uNilc a S fun v5 S =>
 uFad 2 v5 S fun v6 S =>
 uSt 1 v6 v4 S fun v7 S =>
 κ a c d e f g h i j k l m S
def u38_24 (C : CU) := m12 fun a c d e f g h i j k l m S κ =>
 κ a c (.n 0) e f g h i j k l m S
def u38r (v : W12) (S : FAW) : RU := W12.rec (motive := fun _ => RU) (fun a c d e f g h i j k l m => .ok d S) v
def u38b (C : CU) (n : Nat) : CdU W12 := seqU (u38_0 C) (seqU (seqU (u38_1 C) (condU u38_2 (seqU (u38_3 C) (retU)) (skipU))) (seqU (u38_4 C) (seqU (blockU 0 (seqU (u38_5 C) (condU u38_6 (seqU (u38_7 C) (retU)) (seqU (u38_8 C) (condU u38_9 (seqU (u38_10 C) (retU)) (seqU (u38_11 C) (condU u38_12 (seqU (u38_13 C) (retU)) (skipU)))))))) (seqU (seqU (u38_14 C) (seqU (u38_15 C) (condU u38_16 (seqU (u38_17 C) (retU)) (skipU)))) (seqU (seqU (u38_18 C) (seqU (u38_19 C) (condU u38_20 (seqU (u38_21 C) (retU)) (skipU)))) (seqU (u38_22 C) (seqU (u38_23 C) (seqU (u38_24 C) (retU)))))))))
def u38 : Fu := fun C n args S => u38b C n ((fu12 0 1 4 5 6 7 9 12 23 29 51 59).ent (argU args)) S fun o v S => exU o (u38r v S) (fun _ => .no) (u38r v S)
/-! (*assayer/log.Log).Count -/
def u39_0 (C : CU) := m3 fun a c d S κ =>
 κ a (.n 0) d S
def u39_1 (C : CU) := m3 fun a c d S κ =>
 uEqN 0 false a .np S fun v0 S =>
 κ a c v0 S
def u39_2 := k3 fun a c d => d
def u39_3 (C : CU) := m3 fun a c d S κ =>
 κ a (.n 0) d S
def u39_4 (C : CU) := m3 fun a c d S κ =>
 uGet 1 a S fun v2 S =>
 κ a v2 d S
def u39r (v : W3) (S : FAW) : RU := W3.rec (motive := fun _ => RU) (fun a c d => .ok c S) v
def u39b (C : CU) (n : Nat) : CdU W3 := seqU (u39_0 C) (seqU (seqU (u39_1 C) (condU u39_2 (seqU (u39_3 C) (retU)) (skipU))) (seqU (u39_4 C) (retU)))
def u39 : Fu := fun C n args S => u39b C n ((fu3 0 2 4).ent (argU args)) S fun o v S => exU o (u39r v S) (fun _ => .no) (u39r v S)
/-! (*assayer/log.Log).Pack -/
def u40_0 (C : CU) := m17 fun a c d e f g h i j k l m o p q r s S κ =>
 κ a c (.n 0) e f g h i j k l m o p q r s S
def u40_1 (C : CU) := m17 fun a c d e f g h i j k l m o p q r s S κ =>
 uEqN 0 false a .np S fun v0 S =>
 κ a c d e f g h v0 j k l m o p q r s S
def u40_2 := k17 fun a c d e f g h i j k l m o p q r s => i
def u40_3 (C : CU) := m17 fun a c d e f g h i j k l m o p q r s S κ =>
 κ a c (.n 1) e f g h i j k l m o p q r s S
def u40_4 (C : CU) := m17 fun a c d e f g h i j k l m o p q r s S κ =>
 uLen false c S fun v0 S =>
 uCmp (fun a b => ltN b a) .gtr v0 (.n 200) S fun v1 S =>
 κ a c d e f g h i v1 k l m o p q r s S
def u40_5 := k17 fun a c d e f g h i j k l m o p q r s => j
def u40_6 (C : CU) := m17 fun a c d e f g h i j k l m o p q r s S κ =>
 κ a c (.n 17) e f g h i j k l m o p q r s S
def u40_7 (C : CU) := m17 fun a c d e f g h i j k l m o p q r s S κ =>
 κ a c d .nl f g h i j k l m o p q r s S
def u40_8 (C : CU) := m17 fun a c d e f g h i j k l m o p q r s S κ =>
 uLen false c S fun v0 S =>
 κ a c d e f g h i j c v0 (.n 0) o p q r s S
def u40_9 (C : CU) := m17 fun a c d e f g h i j k l m o p q r s S κ =>
 uCmp ltN .lss m l S fun v0 S =>
 κ a c d e f g h i j k l m v0 p q r s S
def u40_10 := k17 fun a c d e f g h i j k l m o p q r s => o
def u40_11 (C : CU) := m17 fun a c d e f g h i j k l m o p q r s S κ =>
 uIad 1 k m S fun v0 S =>
 uLd none v0 S fun v1 S =>
 κ a c d e v1 g h i j k l m o p q r s S
def u40_12 (C : CU) := m17 fun a c d e f g h i j k l m o p q r s S κ =>
 uCall C 75 [f] S fun v0 S =>
 κ a c d e f v0 h i j k l m o p q r s S
def u40_13 (C : CU) := m17 fun a c d e f g h i j k l m o p q r s S κ =>
 uLen false g S fun v0 S =>
 uEq false .eql v0 (.n 0) S fun v1 S =>
 κ a c d e f g h i j k l m o v1 q r s S
def u40_14 := k17 fun a c d e f g h i j k l m o p q r s => p
def u40_15 (C : CU) := m17 fun a c d e f g h i j k l m o p q r s S κ =>
 κ a c (.n 17) e f g h i j k l m o p q r s S
def u40_16 (C : CU) := m17 fun a c d e f g h i j k l m o p q r s S κ =>
 uApp 5 1 1 e g S fun v0 S =>
 κ a c d v0 f g h i j k l m o p q r s S
def u40_17 (C : CU) := m17 fun a c d e f g h i j k l m o p q r s S κ =>
 uAdd m (.n 1) S fun v0 S =>
 κ a c d e f g h i j k l v0 o p q r s S
def u40_18 (C : CU) (n : Nat) : CdU W17 := seqU (u40_9 C) (seqU (condU u40_10 (skipU) (exitU 1)) (seqU (blockU 2 (seqU (u40_11 C) (seqU (u40_12 C) (seqU (seqU (u40_13 C) (condU u40_14 (seqU (u40_15 C) (retU)) (skipU))) (u40_16 C))))) (u40_17 C)))
def u40_19 (C : CU) := m17 fun a c d e f g h i j k l m o p q r s S κ =>
 uCall C 76 [a, e] S fun v0 S =>
 κ a c d e f g v0 i j k l m o p q r s S
def u40_20 (C : CU) := m17 fun a c d e f g h i j k l m o p q r s S κ =>
 κ a c d e f g h i j k l m o p h r s S
def u40_21 (C : CU) := m17 fun a c d e f g h i j k l m o p q r s S κ =>
 uEq false .eql q (.n 0) S fun v0 S =>
 κ a c d e f g h i j k l m o p q v0 s S
def u40_22 := k17 fun a c d e f g h i j k l m o p q r s => r
def u40_23 (C : CU) := m17 fun a c d e f g h i j k l m o p q r s S κ =>
 uLen false c S fun v0 S =>
 uLen false e S fun v1 S =>
 uNilc a S fun v2 S =>
 uFad 1 v2 S fun v3 S =>
 uSt 1 v3 v0 S fun v4 S =>
 uNilc a S fun v5 S =>
 uFad 2 v5 S fun v6 S =>
 uSt 1 v6 v1 S fun v7 S =>
 κ a c d e f g h i j k l m o p q r s S
def u40_24 (C : CU) := m17 fun a c d e f g h i j k l m o p q r s S κ =>
 uEq false .eql q (.n 18) S fun v0 S =>
 κ a c d e f g h i j k l m o p q r v0 S
def u40_25 := k17 fun a c d e f g h i j k l m o p q r s => s
def u40_26 (C : CU) := m17 fun a c d e f g h i j k l m o p q r s S κ =>
 uCall C 74 [a] S fun v0 S =>
 κ a c d e f g h i j k l m o p q r s S
def u40_27 (C : CU) := m17 fun a c d e f g h i j k l m o p q r s S κ =>
 κ a c h e f g h i j k l m o p q r s S
def u40r (v : W17) (S : FAW) : RU := W17.rec (motive := fun _ => RU) (fun a c d e f g h i j k l m o p q r s => .ok d S) v
def u40b (C : CU) (n : Nat) : CdU W17 := seqU (u40_0 C) (seqU (blockU 0 (seqU (u40_1 C) (condU u40_2 (seqU (u40_3 C) (retU)) (seqU (u40_4 C) (condU u40_5 (seqU (u40_6 C) (retU)) (skipU)))))) (seqU (u40_7 C) (seqU (seqU (u40_8 C) (blockU 1 (loopU n (u40_18 C n)))) (seqU (u40_19 C) (seqU (seqU (u40_20 C) (blockU 3 (seqU (u40_21 C) (condU u40_22 (u40_23 C) (seqU (u40_24 C) (condU u40_25 (skipU) (u40_26 C))))))) (seqU (u40_27 C) (retU)))))))
def u40 : Fu := fun C n args S => u40b C n ((fu17 0 1 4 5 7 8 9 10 13 17 18 19 20 27 35 38 50).ent (argU args)) S fun o v S => exU o (u40r v S) (fun _ => .no) (u40r v S)
/-! (*assayer/disk.Disk).can -/
def u49_0 (C : CU) := m4 fun a c d e S κ =>
 κ a (.n 0) d e S
def u49_1 (C : CU) := m4 fun a c d e S κ =>
 uEqN 0 false a .np S fun v0 S =>
 κ a c v0 e S
def u49_2 := k4 fun a c d e => d
def u49_3 (C : CU) := m4 fun a c d e S κ =>
 κ a (.n 1) d e S
def u49_4 (C : CU) := m4 fun a c d e S κ =>
 uGet 5 a S fun v2 S =>
 κ a c d v2 S
def u49_5 := k4 fun a c d e => e
def u49_6 (C : CU) := m4 fun a c d e S κ =>
 κ a (.n 18) d e S
def u49_7 (C : CU) := m4 fun a c d e S κ =>
 κ a (.n 0) d e S
def u49r (v : W4) (S : FAW) : RU := W4.rec (motive := fun _ => RU) (fun a c d e => .ok c S) v
def u49b (C : CU) (n : Nat) : CdU W4 := seqU (u49_0 C) (seqU (blockU 0 (seqU (u49_1 C) (condU u49_2 (seqU (u49_3 C) (retU)) (seqU (u49_4 C) (condU u49_5 (seqU (u49_6 C) (retU)) (skipU)))))) (seqU (u49_7 C) (retU)))
def u49 : Fu := fun C n args S => u49b C n ((fu4 0 2 3 6).ent (argU args)) S fun o v S => exU o (u49r v S) (fun _ => .no) (u49r v S)
/-! (*assayer/disk.Disk).Append$1 -/
def u50_0 (C : CU) := m4 fun a c d e S κ =>
 uLd none a S fun v0 S =>
 uNilc v0 S fun v1 S =>
 uFad 1 v1 S fun v2 S =>
 uLd none v2 S fun v3 S =>
 uLd none c S fun v4 S =>
 uMlkF (.one (.str)) (.a [.nl, (.n 0)]) false v3 v4 S fun v5 S =>
 uNewF 81 2 [.nl, (.n 0)] S fun v6 S =>
 uMlkF (.one (.str)) (.a [.nl, (.n 0)]) false v3 v4 S fun u _ => veqU u v5
 (uLd none c S fun u _ => veqU u v4
 (uLd none v2 S fun u _ => veqU u v3
 (uLd none a S fun u _ => veqU u v0
 (uSt 2 v6 v5 S fun v7 S =>
 κ a c d v6 S))))
def u50_1 (C : CU) := m4 fun a c d e S κ =>
 uLd none a S fun v0 S =>
 uNilc v0 S fun v1 S =>
 uFad 1 v1 S fun v2 S =>
 uLd none v2 S fun v3 S =>
 uLd none c S fun v4 S =>
 uFad 0 e S fun v5 S =>
 uLd none v5 S fun v6 S =>
 uLd none d S fun v7 S =>
 uLitF 28 1 [.nl] 2 [(0, 1, v6), (1, 1, v7)] S fun v8 S =>
 uFad 1 e S fun v9 S =>
 uLd none v9 S fun v10 S =>
 uLd none v9 S fun u _ => veqU u v10
 (uLd none d S fun u _ => veqU u v7
 (uLd none v5 S fun u _ => veqU u v6
 (uLd none c S fun u _ => veqU u v4
 (uLd none v2 S fun u _ => veqU u v3
 (uLd none a S fun u _ => veqU u v0
 (uCall C 51 [v8] S fun v11 S =>
 uBuildF [.nl, (.n 0)] [(0, 1, v11), (1, 1, v10)] S fun v12 S =>
 uLd none v9 S fun u _ => veqU u v10
 (uLd none c S fun u _ => veqU u v4
 (uLd none v2 S fun u _ => veqU u v3
 (uLd none a S fun u _ => veqU u v0
 (uMup (.one (.str)) v3 v4 v12 S fun v13 S =>
 κ a c d e S))))))))))
def u50r (v : W4) (S : FAW) : RU := W4.rec (motive := fun _ => RU) (fun a c d e => .ok (.u []) S) v
def u50b (C : CU) (n : Nat) : CdU W4 := seqU (u50_0 C) (u50_1 C)
def u50 : Fu := fun C n args S => u50b C n ((fu4 0 1 2 3).ent (argU args)) S fun o v S => exU o (u50r v S) (fun _ => .no) (u50r v S)
/-! slices.Concat[[]byte,byte] -/
def u51_0 (C : CU) := m15 fun a c d e f g h i j k l m o p q S κ =>
 κ a .nl d e f g h i j k l m o p q S
def u51_1 (C : CU) := m15 fun a c d e f g h i j k l m o p q S κ =>
 κ a c (.n 0) e f g h i j k l m o p q S
def u51_2 (C : CU) := m15 fun a c d e f g h i j k l m o p q S κ =>
 uLen false a S fun v0 S =>
 κ a c d e f g a v0 (.n 0) k l m o p q S
def u51_3 (C : CU) := m15 fun a c d e f g h i j k l m o p q S κ =>
 uCmp ltN .lss j i S fun v0 S =>
 κ a c d e f g h i j v0 l m o p q S
def u51_4 := k15 fun a c d e f g h i j k l m o p q => k
def u51_5 (C : CU) := m15 fun a c d e f g h i j k l m o p q S κ =>
 uIad 1 h j S fun v0 S =>
 uLd none v0 S fun v1 S =>
 κ a c d v1 f g h i j k l m o p q S
def u51_6 (C : CU) := m15 fun a c d e f g h i j k l m o p q S κ =>
 uLen false e S fun v0 S =>
 uAdd d v0 S fun v1 S =>
 κ a c v1 e f g h i j k l m o p q S
def u51_7 (C : CU) := m15 fun a c d e f g h i j k l m o p q S κ =>
 uCmp ltN .lss d (.n 0) S fun v0 S =>
 κ a c d e f g h i j k v0 m o p q S
def u51_8 := k15 fun a c d e f g h i j k l m o p q => l
def u51_9 (C : CU) := m15 fun a c d e f g h i j k l m o p q S κ =>
 uNo S fun v0 S =>
 uNo S fun v1 S =>
 κ a c d e f g h i j k l m o p q S
def u51_10 (C : CU) := m15 fun a c d e f g h i j k l m o p q S κ =>
 uAdd j (.n 1) S fun v0 S =>
 κ a c d e f g h i v0 k l m o p q S
def u51_11 (C : CU) (n : Nat) : CdU W15 := seqU (u51_3 C) (seqU (condU u51_4 (skipU) (exitU 0)) (seqU (blockU 1 (seqU (u51_5 C) (seqU (u51_6 C) (seqU (u51_7 C) (condU u51_8 (u51_9 C) (skipU)))))) (u51_10 C)))
def u51_12 (C : CU) := m15 fun a c d e f g h i j k l m o p q S κ =>
 uCall C 81 [.nl, d] S fun v0 S =>
 κ a c d e v0 g h i j k l m o p q S
def u51_13 (C : CU) := m15 fun a c d e f g h i j k l m o p q S κ =>
 uLen false a S fun v0 S =>
 κ a c d e f g h i j k l a v0 (.n 0) q S
def u51_14 (C : CU) := m15 fun a c d e f g h i j k l m o p q S κ =>
 uCmp ltN .lss p o S fun v0 S =>
 κ a c d e f g h i j k l m o p v0 S
def u51_15 := k15 fun a c d e f g h i j k l m o p q => q
def u51_16 (C : CU) := m15 fun a c d e f g h i j k l m o p q S κ =>
 uIad 1 m p S fun v0 S =>
 uLd none v0 S fun v1 S =>
 κ a c d e f v1 h i j k l m o p q S
def u51_17 (C : CU) := m15 fun a c d e f g h i j k l m o p q S κ =>
 uApp 5 1 1 f g S fun v0 S =>
 κ a c d e v0 g h i j k l m o p q S
def u51_18 (C : CU) := m15 fun a c d e f g h i j k l m o p q S κ =>
 uAdd p (.n 1) S fun v0 S =>
 κ a c d e f g h i j k l m o v0 q S
def u51_19 (C : CU) (n : Nat) : CdU W15 := seqU (u51_14 C) (seqU (condU u51_15 (skipU) (exitU 2)) (seqU (blockU 3 (seqU (u51_16 C) (u51_17 C))) (u51_18 C)))
def u51_20 (C : CU) := m15 fun a c d e f g h i j k l m o p q S κ =>
 κ a f d e f g h i j k l m o p q S
def u51r (v : W15) (S : FAW) : RU := W15.rec (motive := fun _ => RU) (fun a c d e f g h i j k l m o p q => .ok c S) v
def u51b (C : CU) (n : Nat) : CdU W15 := seqU (u51_0 C) (seqU (u51_1 C) (seqU (seqU (u51_2 C) (blockU 0 (loopU n (u51_11 C n)))) (seqU (u51_12 C) (seqU (seqU (u51_13 C) (blockU 2 (loopU n (u51_19 C n)))) (seqU (u51_20 C) (retU))))))
def u51 : Fu := fun C n args S => u51b C n ((fu15 0 2 3 5 6 8 9 10 11 12 20 25 26 27 28).ent (argU args)) S fun o v S => exU o (u51r v S) (fun _ => .no) (u51r v S)
/-! (*assayer/disk.Disk).does -/
def u52_0 (C : CU) := m6 fun a c d e f g S κ =>
 κ a c d (.n 0) f g S
def u52_1 (C : CU) := m6 fun a c d e f g S κ =>
 uGet 2 a S fun v2 S =>
 eT v2 fun b => cn b
 (uGet 3 a S fun v5 S =>
 uEq false .eql v5 (.n 0) S fun v6 S =>
 κ a c d e v6 g S)
 (κ a c d e (.t false) g S)
def u52_2 := k6 fun a c d e f g => f
def u52_3 (C : CU) := m6 fun a c d e f g S κ =>
 uCallV C d [] S fun v0 S =>
 κ a c d e f g S
def u52_4 (C : CU) := m6 fun a c d e f g S κ =>
 uGet 4 a S fun v2 S =>
 uCall C 22 [a, v2] S fun v3 S =>
 κ a c d e f g S
def u52_5 (C : CU) := m6 fun a c d e f g S κ =>
 κ a c d (.n 18) f g S
def u52_6 (C : CU) := m6 fun a c d e f g S κ =>
 uGet 2 a S fun v2 S =>
 κ a c d e f v2 S
def u52_7 := k6 fun a c d e f g => g
def u52_8 (C : CU) := m6 fun a c d e f g S κ =>
 uGet 3 a S fun v2 S =>
 uSub v2 (.n 1) S fun v3 S =>
 uNilc a S fun v4 S =>
 uFad 3 v4 S fun v5 S =>
 uSt 1 v5 v3 S fun v6 S =>
 κ a c d e f g S
def u52_9 (C : CU) := m6 fun a c d e f g S κ =>
 uCallV C c [] S fun v0 S =>
 κ a c d e f g S
def u52_10 (C : CU) := m6 fun a c d e f g S κ =>
 κ a c d (.n 0) f g S
def u52r (v : W6) (S : FAW) : RU := W6.rec (motive := fun _ => RU) (fun a c d e f g => .ok e S) v
def u52b (C : CU) (n : Nat) : CdU W6 := seqU (u52_0 C) (seqU (seqU (u52_1 C) (condU u52_2 (seqU (u52_3 C) (seqU (u52_4 C) (seqU (u52_5 C) (retU)))) (skipU))) (seqU (seqU (u52_6 C) (condU u52_7 (u52_8 C) (skipU))) (seqU (u52_9 C) (seqU (u52_10 C) (retU)))))
def u52 : Fu := fun C n args S => u52b C n ((fu6 0 1 2 6 17 29).ent (argU args)) S fun o v S => exU o (u52r v S) (fun _ => .no) (u52r v S)
/-! (*assayer/disk.Disk).has -/
def u53_0 (C : CU) := m7 fun a c d e f g h S κ =>
 κ a c (.n 0) e f g h S
def u53_1 (C : CU) := m7 fun a c d e f g h S κ =>
 uCall C 49 [a] S fun v0 S =>
 κ a c d v0 f g h S
def u53_2 (C : CU) := m7 fun a c d e f g h S κ =>
 uEq true .neq e (.n 0) S fun v0 S =>
 κ a c d e f v0 h S
def u53_3 := k7 fun a c d e f g h => g
def u53_4 (C : CU) := m7 fun a c d e f g h S κ =>
 κ a c e e f g h S
def u53_5 (C : CU) := m7 fun a c d e f g h S κ =>
 uGet 1 a S fun v2 S =>
 uMlkF (.one (.str)) (.a [.nl, (.n 0)]) true v2 c S fun v3 S =>
 uExt 0 v3 S fun v4 S =>
 uExt 1 v3 S fun v5 S =>
 uNewF 81 2 [.nl, (.n 0)] S fun v6 S =>
 uSt 2 v6 v4 S fun v7 S =>
 κ a c d e v5 g h S
def u53_6 (C : CU) := m7 fun a c d e f g h S κ =>
 uNot f S fun v0 S =>
 κ a c d e f g v0 S
def u53_7 := k7 fun a c d e f g h => h
def u53_8 (C : CU) := m7 fun a c d e f g h S κ =>
 κ a c (.n 15) e f g h S
def u53_9 (C : CU) := m7 fun a c d e f g h S κ =>
 κ a c (.n 0) e f g h S
def u53r (v : W7) (S : FAW) : RU := W7.rec (motive := fun _ => RU) (fun a c d e f g h => .ok d S) v
def u53b (C : CU) (n : Nat) : CdU W7 := seqU (u53_0 C) (seqU (seqU (u53_1 C) (seqU (u53_2 C) (condU u53_3 (seqU (u53_4 C) (retU)) (skipU)))) (seqU (seqU (u53_5 C) (seqU (u53_6 C) (condU u53_7 (seqU (u53_8 C) (retU)) (skipU)))) (seqU (u53_9 C) (retU))))
def u53 : Fu := fun C n args S => u53b C n ((fu7 0 1 4 5 7 11 23).ent (argU args)) S fun o v S => exU o (u53r v S) (fun _ => .no) (u53r v S)
/-! (*assayer/disk.Disk).Sync$1 -/
def u54_0 (C : CU) := m3 fun a c d S κ =>
 uLd none a S fun v0 S =>
 uNilc v0 S fun v1 S =>
 uFad 1 v1 S fun v2 S =>
 uLd none v2 S fun v3 S =>
 uLd none c S fun v4 S =>
 uMlkF (.one (.str)) (.a [.nl, (.n 0)]) false v3 v4 S fun v5 S =>
 uNewF 81 2 [.nl, (.n 0)] S fun v6 S =>
 uMlkF (.one (.str)) (.a [.nl, (.n 0)]) false v3 v4 S fun u _ => veqU u v5
 (uLd none c S fun u _ => veqU u v4
 (uLd none v2 S fun u _ => veqU u v3
 (uLd none a S fun u _ => veqU u v0
 (uSt 2 v6 v5 S fun v7 S =>
 κ a c v6 S))))
def u54_1 (C : CU) := m3 fun a c d S κ =>
 uLd none a S fun v0 S =>
 uGet 1 v0 S fun v3 S =>
 uLd none c S fun v4 S =>
 uFad 0 d S fun v5 S =>
 uLd none v5 S fun v6 S =>
 uFad 0 d S fun v7 S =>
 uLd none v7 S fun v8 S =>
 uLen false v8 S fun v9 S =>
 uBuildF [.nl, (.n 0)] [(0, 1, v6), (1, 1, v9)] S fun v10 S =>
 uMup (.one (.str)) v3 v4 v10 S fun v11 S =>
 κ a c d S
def u54r (v : W3) (S : FAW) : RU := W3.rec (motive := fun _ => RU) (fun a c d => .ok (.u []) S) v
def u54b (C : CU) (n : Nat) : CdU W3 := seqU (u54_0 C) (u54_1 C)
def u54 : Fu := fun C n args S => u54b C n ((fu3 0 1 2).ent (argU args)) S fun o v S => exU o (u54r v S) (fun _ => .no) (u54r v S)
/-! (*assayer/disk.Disk).Sync$2 -/

def u55r (v : W0) (S : FAW) : RU := W0.rec (motive := fun _ => RU) (.ok (.u []) S) v
def u55b (C : CU) (n : Nat) : CdU W0 := skipU
def u55 : Fu := fun C n args S => u55b C n ((fu0).ent (argU args)) S fun o v S => exU o (u55r v S) (fun _ => .no) (u55r v S)
/-! slices.Clone[[]byte,byte] -/
def u56_0 (C : CU) := m3 fun a c d S κ =>
 κ a .nl d S
def u56_1 (C : CU) := m3 fun a c d S κ =>
 uEqN 1 false a .nl S fun v0 S =>
 κ a c v0 S
def u56_2 := k3 fun a c d => d
def u56_3 (C : CU) := m3 fun a c d S κ =>
 κ a .nl d S
def u56_4 (C : CU) := m3 fun a c d S κ =>
 uLitF 5 1 [(.b 0)] 0 [] S fun v0 S =>
 uApp 5 1 1 v0 a S fun v1 S =>
 κ a v1 d S
def u56r (v : W3) (S : FAW) : RU := W3.rec (motive := fun _ => RU) (fun a c d => .ok c S) v
def u56b (C : CU) (n : Nat) : CdU W3 := seqU (u56_0 C) (seqU (seqU (u56_1 C) (condU u56_2 (seqU (u56_3 C) (retU)) (skipU))) (seqU (u56_4 C) (retU)))
def u56 : Fu := fun C n args S => u56b C n ((fu3 0 2 4).ent (argU args)) S fun o v S => exU o (u56r v S) (fun _ => .no) (u56r v S)
/-! (*assayer/disk.Disk).Rename$1 -/
def u57_0 (C : CU) := m4 fun a c d e S κ =>
 uLd none a S fun v0 S =>
 uNilc v0 S fun v1 S =>
 uFad 1 v1 S fun v2 S =>
 uLd none v2 S fun v3 S =>
 uLd none c S fun v4 S =>
 uMlkF (.one (.str)) (.a [.nl, (.n 0)]) false v3 v4 S fun v5 S =>
 uNewF 81 2 [.nl, (.n 0)] S fun v6 S =>
 uMlkF (.one (.str)) (.a [.nl, (.n 0)]) false v3 v4 S fun u _ => veqU u v5
 (uLd none c S fun u _ => veqU u v4
 (uLd none v2 S fun u _ => veqU u v3
 (uLd none a S fun u _ => veqU u v0
 (uSt 2 v6 v5 S fun v7 S =>
 κ a c d v6 S))))
def u57_1 (C : CU) := m4 fun a c d e S κ =>
 uLd none a S fun v0 S =>
 uGet 1 v0 S fun v3 S =>
 uLd none c S fun v4 S =>
 uMdel (.one (.str)) v3 v4 S fun v5 S =>
 κ a c d e S
def u57_2 (C : CU) := m4 fun a c d e S κ =>
 uLd none a S fun v0 S =>
 uGet 1 v0 S fun v3 S =>
 uLd none d S fun v4 S =>
 uLd (some 2) e S fun v5 S =>
 uMup (.one (.str)) v3 v4 v5 S fun v6 S =>
 κ a c d e S
def u57r (v : W4) (S : FAW) : RU := W4.rec (motive := fun _ => RU) (fun a c d e => .ok (.u []) S) v
def u57b (C : CU) (n : Nat) : CdU W4 := seqU (u57_0 C) (seqU (u57_1 C) (u57_2 C))
def u57 : Fu := fun C n args S => u57b C n ((fu4 0 1 2 3).ent (argU args)) S fun o v S => exU o (u57r v S) (fun _ => .no) (u57r v S)
/-! (*assayer/disk.Disk).Rename$2 -/

def u58r (v : W0) (S : FAW) : RU := W0.rec (motive := fun _ => RU) (.ok (.u []) S) v
def u58b (C : CU) (n : Nat) : CdU W0 := skipU
def u58 : Fu := fun C n args S => u58b C n ((fu0).ent (argU args)) S fun o v S => exU o (u58r v S) (fun _ => .no) (u58r v S)
/-! (*assayer/disk.Disk).Remove$1 -/
def u62_0 (C : CU) := m2 fun a c S κ =>
 uLd none a S fun v0 S =>
 uGet 1 v0 S fun v3 S =>
 uLd none c S fun v4 S =>
 uMdel (.one (.str)) v3 v4 S fun v5 S =>
 κ a c S
def u62r (v : W2) (S : FAW) : RU := W2.rec (motive := fun _ => RU) (fun a c => .ok (.u []) S) v
def u62b (C : CU) (n : Nat) : CdU W2 := u62_0 C
def u62 : Fu := fun C n args S => u62b C n ((fu2 0 1).ent (argU args)) S fun o v S => exU o (u62r v S) (fun _ => .no) (u62r v S)
/-! (*assayer/disk.Disk).Remove$2 -/

def u63r (v : W0) (S : FAW) : RU := W0.rec (motive := fun _ => RU) (.ok (.u []) S) v
def u63b (C : CU) (n : Nat) : CdU W0 := skipU
def u63 : Fu := fun C n args S => u63b C n ((fu0).ent (argU args)) S fun o v S => exU o (u63r v S) (fun _ => .no) (u63r v S)
/-! assayer/assayerref1.Put -/
def u70_0 (C : CU) := m9 fun a c d e f g h i j S κ =>
 κ a c d .nl f g h i j S
def u70_1 (C : CU) := m9 fun a c d e f g h i j S κ =>
 uLitF 5 1 [(.b 0)] 0 [] S fun v0 S =>
 uApp 5 1 1 v0 a S fun v1 S =>
 κ a c d e v1 g h i j S
def u70_2 (C : CU) := m9 fun a c d e f g h i j S κ =>
 uCmp ltN .lss d (.n 0) S fun v0 S =>
 eT v0 fun b => cn b
 (κ a c d e f g h (.t true) j S)
 (uCmp (fun a b => ltN b a) .gtr d (.n 8) S fun v1 S =>
 κ a c d e f g h v1 j S)
def u70_3 := k9 fun a c d e f g h i j => i
def u70_4 (C : CU) := m9 fun a c d e f g h i j S κ =>
 κ a c d f f g h i j S
def u70_5 (C : CU) := m9 fun a c d e f g h i j S κ =>
 uLen false f S fun v0 S =>
 κ a c d e f v0 h i j S
def u70_6 (C : CU) := m9 fun a c d e f g h i j S κ =>
 uAppzF 5 1 1 [(.b 0)] f d S fun v0 S =>
 κ a c d e v0 g h i j S
def u70_7 (C : CU) := m9 fun a c d e f g h i j S κ =>
 uLen false f S fun v0 S =>
 uSub v0 (.n 1) S fun v1 S =>
 κ a c d e f g v1 i j S
def u70_8 (C : CU) := m9 fun a c d e f g h i j S κ =>
 uCmp (fun a b => Nat.ble b a) .geq h g S fun v0 S =>
 κ a c d e f g h i v0 S
def u70_9 := k9 fun a c d e f g h i j => j
def u70_10 (C : CU) := m9 fun a c d e f g h i j S κ =>
 uQuo false .rem c (.i .u64 256) S fun v0 S =>
 uCvI .u8 v0 S fun v1 S =>
 uIad 1 f h S fun v2 S =>
 uSt 1 v2 v1 S fun v3 S =>
 κ a c d e f g h i j S
def u70_11 (C : CU) := m9 fun a c d e f g h i j S κ =>
 uQuo true .quo c (.i .u64 256) S fun v0 S =>
 κ a v0 d e f g h i j S
def u70_12 (C : CU) := m9 fun a c d e f g h i j S κ =>
 uSub h (.n 1) S fun v0 S =>
 κ a c d e f g v0 i j S
def u70_13 (C : CU) (n : Nat) : CdU W9 := seqU (seqU (u70_8 C) (condU u70_9 (skipU) (exitU 0))) (seqU (blockU 1 (seqU (u70_10 C) (u70_11 C))) (u70_12 C))
def u70_14 (C : CU) := m9 fun a c d e f g h i j S κ =>
 κ a c d f f g h i j S
def u70r (v : W9) (S : FAW) : RU := W9.rec (motive := fun _ => RU) (fun a c d e f g h i j => .ok e S) v
def u70b (C : CU) (n : Nat) : CdU W9 := seqU (u70_0 C) (seqU (u70_1 C) (seqU (seqU (u70_2 C) (condU u70_3 (seqU (u70_4 C) (retU)) (skipU))) (seqU (u70_5 C) (seqU (u70_6 C) (seqU (seqU (u70_7 C) (blockU 0 (loopU n (u70_13 C n)))) (seqU (u70_14 C) (retU)))))))
def u70 : Fu := fun C n args S => u70b C n ((fu9 0 1 2 6 7 8 9 18 30).ent (argU args)) S fun o v S => exU o (u70r v S) (fun _ => .no) (u70r v S)
/-! assayer/assayerref1.Sum -/
def u71_0 (C : CU) := m8 fun a c d e f g h i S κ =>
 κ a (.i .u32 0) d e f g h i S
def u71_1 (C : CU) := m8 fun a c d e f g h i S κ =>
 κ a c (.i .u32 4294967295) e f g h i S
def u71_2 (C : CU) := m8 fun a c d e f g h i S κ =>
 κ a c d (.n 0) f g h i S
def u71_3 (C : CU) := m8 fun a c d e f g h i S κ =>
 uLen false a S fun v0 S =>
 uMul (.n 8) v0 S fun v1 S =>
 uCmp ltN .lss e v1 S fun v2 S =>
 κ a c d e f g v2 i S
def u71_4 := k8 fun a c d e f g h i => h
def u71_5 (C : CU) := m8 fun a c d e f g h i S κ =>
 uQuo true .quo e (.n 8) S fun v0 S =>
 uIad 1 a v0 S fun v1 S =>
 uLd none v1 S fun v2 S =>
 uCvI .u32 v2 S fun v3 S =>
 uQuo false .rem e (.n 8) S fun v4 S =>
 uSlow .shr v3 v4 S fun v5 S =>
 uSlow .and v5 (.i .u32 1) S fun v6 S =>
 κ a c d e v6 g h i S
def u71_6 (C : CU) := m8 fun a c d e f g h i S κ =>
 uSlow .and d (.i .u32 1) S fun v0 S =>
 uEq true .neq v0 f S fun v1 S =>
 κ a c d e f v1 h i S
def u71_7 (C : CU) := m8 fun a c d e f g h i S κ =>
 uSlow .shr d (.i .u64 1) S fun v0 S =>
 κ a c v0 e f g h i S
def u71_8 (C : CU) := m8 fun a c d e f g h i S κ =>
 κ a c d e f g h g S
def u71_9 := k8 fun a c d e f g h i => i
def u71_10 (C : CU) := m8 fun a c d e f g h i S κ =>
 uSlow .xor d (.i .u32 2197175160) S fun v0 S =>
 κ a c v0 e f g h i S
def u71_11 (C : CU) := m8 fun a c d e f g h i S κ =>
 uAdd e (.n 1) S fun v0 S =>
 κ a c d v0 f g h i S
def u71_12 (C : CU) (n : Nat) : CdU W8 := seqU (seqU (u71_3 C) (condU u71_4 (skipU) (exitU 0))) (seqU (blockU 1 (seqU (u71_5 C) (seqU (u71_6 C) (seqU (u71_7 C) (seqU (u71_8 C) (condU u71_9 (u71_10 C) (skipU))))))) (u71_11 C))
def u71_13 (C : CU) := m8 fun a c d e f g h i S κ =>
 uUn .xor d S fun v0 S =>
 κ a v0 d e f g h i S
def u71r (v : W8) (S : FAW) : RU := W8.rec (motive := fun _ => RU) (fun a c d e f g h i => .ok c S) v
def u71b (C : CU) (n : Nat) : CdU W8 := seqU (u71_0 C) (seqU (u71_1 C) (seqU (seqU (u71_2 C) (blockU 0 (loopU n (u71_12 C n)))) (seqU (u71_13 C) (retU))))
def u71 : Fu := fun C n args S => u71b C n ((fu8 0 2 3 4 5 6 11 30).ent (argU args)) S fun o v S => exU o (u71r v S) (fun _ => .no) (u71r v S)
/-! assayer/octet.Unseal -/
def u72_0 (C : CU) := m9 fun a c d e f g h i j S κ =>
 κ a .nl (.n 0) (.n 0) f g h i j S
def u72_1 (C : CU) := m9 fun a c d e f g h i j S κ =>
 uCall C 86 [a, (.n 3)] S fun v0 S =>
 uExt 0 v0 S fun v1 S =>
 uExt 1 v0 S fun v2 S =>
 κ a c d v2 v1 g h i j S
def u72_2 (C : CU) := m9 fun a c d e f g h i j S κ =>
 uEq true .neq e (.n 0) S fun v0 S =>
 eT v0 fun b => cn b
 (κ a c d e f g h (.t true) j S)
 (uLen false a S fun v1 S =>
 uCvI .u64 v1 S fun v2 S =>
 uAdd (.i .u64 3) f S fun v3 S =>
 uAdd v3 (.i .u64 4) S fun v4 S =>
 uCmp ltN .lss v2 v4 S fun v5 S =>
 κ a c d e f g h v5 j S)
def u72_3 := k9 fun a c d e f g h i j => i
def u72_4 (C : CU) := m9 fun a c d e f g h i j S κ =>
 κ a .nl (.n 0) (.n 3) f g h i j S
def u72_5 (C : CU) := m9 fun a c d e f g h i j S κ =>
 uCvI .i64 f S fun v0 S =>
 uAdd (.n 3) v0 S fun v1 S =>
 κ a c d e f v1 h i j S
def u72_6 (C : CU) := m9 fun a c d e f g h i j S κ =>
 uSlV 1 a (some g) none none S fun v0 S =>
 uCall C 86 [v0, (.n 4)] S fun v1 S =>
 uExt 0 v1 S fun v2 S =>
 uExt 1 v1 S fun v3 S =>
 κ a c d e f g v2 i j S
def u72_7 (C : CU) := m9 fun a c d e f g h i j S κ =>
 uCvI .u32 h S fun v0 S =>
 uSlV 1 a (some (.n 3)) (some g) none S fun v1 S =>
 uCall C 87 [v1] S fun v2 S =>
 uEq true .neq v0 v2 S fun v3 S =>
 κ a c d e f g h i v3 S
def u72_8 := k9 fun a c d e f g h i j => j
def u72_9 (C : CU) := m9 fun a c d e f g h i j S κ =>
 κ a .nl (.n 0) (.n 2) f g h i j S
def u72_10 (C : CU) := m9 fun a c d e f g h i j S κ =>
 uSlV 1 a (some (.n 3)) (some g) none S fun v0 S =>
 uApp 5 1 1 .nl v0 S fun v1 S =>
 uAdd g (.n 4) S fun v2 S =>
 κ a v1 v2 (.n 0) f g h i j S
def u72r (v : W9) (S : FAW) : RU := W9.rec (motive := fun _ => RU) (fun a c d e f g h i j => .ok (.u [c, d, e]) S) v
def u72b (C : CU) (n : Nat) : CdU W9 := seqU (u72_0 C) (seqU (u72_1 C) (seqU (seqU (u72_2 C) (condU u72_3 (seqU (u72_4 C) (retU)) (skipU))) (seqU (u72_5 C) (seqU (seqU (u72_6 C) (seqU (u72_7 C) (condU u72_8 (seqU (u72_9 C) (retU)) (skipU)))) (seqU (u72_10 C) (retU))))))
def u72 : Fu := fun C n args S => u72b C n ((fu9 0 2 3 4 5 6 7 24 41).ent (argU args)) S fun o v S => exU o (u72r v S) (fun _ => .no) (u72r v S)
/-! assayer/assayerref1.Unseal -/
def u73_0 (C : CU) := m11 fun a c d e f g h i j k l S κ =>
 κ a .nl (.n 0) (.n 0) f g h i j k l S
def u73_1 (C : CU) := m11 fun a c d e f g h i j k l S κ =>
 uCall C 88 [a, (.n 3)] S fun v0 S =>
 uExt 0 v0 S fun v1 S =>
 uExt 1 v0 S fun v2 S =>
 κ a c d e v1 v2 h i j k l S
def u73_2 (C : CU) := m11 fun a c d e f g h i j k l S κ =>
 uCvI .i64 f S fun v0 S =>
 uAdd (.n 7) v0 S fun v1 S =>
 κ a c d e f g v1 i j k l S
def u73_3 (C : CU) := m11 fun a c d e f g h i j k l S κ =>
 uEq true .neq g (.n 0) S fun v0 S =>
 eT v0 fun b => cn b
 (κ a c d e f g h i j (.t true) l S)
 (uLen false a S fun v1 S =>
 uCmp (fun a b => ltN b a) .gtr h v1 S fun v2 S =>
 κ a c d e f g h i j v2 l S)
def u73_4 := k11 fun a c d e f g h i j k l => k
def u73_5 (C : CU) := m11 fun a c d e f g h i j k l S κ =>
 κ a .nl (.n 0) (.n 3) f g h i j k l S
def u73_6 (C : CU) := m11 fun a c d e f g h i j k l S κ =>
 uLitF 5 1 [(.b 0)] 0 [] S fun v0 S =>
 uSub h (.n 4) S fun v1 S =>
 uSlV 1 a (some (.n 3)) (some v1) none S fun v2 S =>
 uApp 5 1 1 v0 v2 S fun v3 S =>
 κ a c d e f g h v3 j k l S
def u73_7 (C : CU) := m11 fun a c d e f g h i j k l S κ =>
 uSub h (.n 4) S fun v0 S =>
 uSlV 1 a (some v0) none none S fun v1 S =>
 uCall C 88 [v1, (.n 4)] S fun v2 S =>
 uExt 0 v2 S fun v3 S =>
 uExt 1 v2 S fun v4 S =>
 κ a c d e f g h i v3 k l S
def u73_8 (C : CU) := m11 fun a c d e f g h i j k l S κ =>
 uCall C 71 [i] S fun v0 S =>
 uCvI .u64 v0 S fun v1 S =>
 uEq true .neq j v1 S fun v2 S =>
 κ a c d e f g h i j k v2 S
def u73_9 := k11 fun a c d e f g h i j k l => l
def u73_10 (C : CU) := m11 fun a c d e f g h i j k l S κ =>
 κ a .nl (.n 0) (.n 2) f g h i j k l S
def u73_11 (C : CU) := m11 fun a c d e f g h i j k l S κ =>
 κ a i h (.n 0) f g h i j k l S
def u73r (v : W11) (S : FAW) : RU := W11.rec (motive := fun _ => RU) (fun a c d e f g h i j k l => .ok (.u [c, d, e]) S) v
def u73b (C : CU) (n : Nat) : CdU W11 := seqU (u73_0 C) (seqU (u73_1 C) (seqU (u73_2 C) (seqU (seqU (u73_3 C) (condU u73_4 (seqU (u73_5 C) (retU)) (skipU))) (seqU (u73_6 C) (seqU (u73_7 C) (seqU (seqU (u73_8 C) (condU u73_9 (seqU (u73_10 C) (retU)) (skipU))) (seqU (u73_11 C) (retU))))))))
def u73 : Fu := fun C n args S => u73b C n ((fu11 0 2 3 4 5 6 7 8 9 26 45).ent (argU args)) S fun o v S => exU o (u73r v S) (fun _ => .no) (u73r v S)
/-! (*assayer/log.Log).drop -/
def u74_0 (C : CU) := m3 fun a c d S κ =>
 κ a (.n 0) d S
def u74_1 (C : CU) := m3 fun a c d S κ =>
 uGet 0 a S fun v2 S =>
 uCall C 24 [v2] S fun v3 S =>
 uCall C 89 [v3, (.s [110, 101, 119])] S fun v4 S =>
 uNot v4 S fun v5 S =>
 κ a c v5 S
def u74_2 := k3 fun a c d => d
def u74_3 (C : CU) := m3 fun a c d S κ =>
 κ a (.n 0) d S
def u74_4 (C : CU) := m3 fun a c d S κ =>
 uGet 0 a S fun v2 S =>
 uCall C 26 [v2, (.s [110, 101, 119])] S fun v3 S =>
 κ a v3 d S
def u74r (v : W3) (S : FAW) : RU := W3.rec (motive := fun _ => RU) (fun a c d => .ok c S) v
def u74b (C : CU) (n : Nat) : CdU W3 := seqU (u74_0 C) (seqU (seqU (u74_1 C) (condU u74_2 (seqU (u74_3 C) (retU)) (skipU))) (seqU (u74_4 C) (retU)))
def u74 : Fu := fun C n args S => u74b C n ((fu3 0 2 9).ent (argU args)) S fun o v S => exU o (u74r v S) (fun _ => .no) (u74r v S)
/-! assayer/octet.Seal -/
def u75_0 (C : CU) := m4 fun a c d e S κ =>
 κ a .nl d e S
def u75_1 (C : CU) := m4 fun a c d e S κ =>
 uLen false a S fun v0 S =>
 uCmp (fun a b => Nat.ble b a) .geq v0 (.n 16777216) S fun v1 S =>
 κ a c d v1 S
def u75_2 := k4 fun a c d e => e
def u75_3 (C : CU) := m4 fun a c d e S κ =>
 κ a .nl d e S
def u75_4 (C : CU) := m4 fun a c d e S κ =>
 uLen false a S fun v0 S =>
 uCvI .u64 v0 S fun v1 S =>
 uCall C 90 [.nl, v1, (.n 3)] S fun v2 S =>
 uApp 5 1 1 v2 a S fun v3 S =>
 κ a c v3 e S
def u75_5 (C : CU) := m4 fun a c d e S κ =>
 uCall C 87 [a] S fun v0 S =>
 uCvI .u64 v0 S fun v1 S =>
 uCall C 90 [d, v1, (.n 4)] S fun v2 S =>
 κ a v2 d e S
def u75r (v : W4) (S : FAW) : RU := W4.rec (motive := fun _ => RU) (fun a c d e => .ok c S) v
def u75b (C : CU) (n : Nat) : CdU W4 := seqU (u75_0 C) (seqU (seqU (u75_1 C) (condU u75_2 (seqU (u75_3 C) (retU)) (skipU))) (seqU (u75_4 C) (seqU (u75_5 C) (retU))))
def u75 : Fu := fun C n args S => u75b C n ((fu4 0 2 3 6).ent (argU args)) S fun o v S => exU o (u75r v S) (fun _ => .no) (u75r v S)
/-! (*assayer/log.Log).packs -/
def u76_0 (C : CU) := m7 fun a c d e f g h S κ =>
 κ a c (.n 0) e f g h S
def u76_1 (C : CU) := m7 fun a c d e f g h S κ =>
 uGet 0 a S fun v2 S =>
 uCall C 17 [v2, (.s [110, 101, 119]), c] S fun v3 S =>
 κ a c d v3 f g h S
def u76_2 (C : CU) := m7 fun a c d e f g h S κ =>
 uEq true .neq e (.n 0) S fun v0 S =>
 κ a c d e f v0 h S
def u76_3 := k7 fun a c d e f g h => g
def u76_4 (C : CU) := m7 fun a c d e f g h S κ =>
 κ a c e e f g h S
def u76_5 (C : CU) := m7 fun a c d e f g h S κ =>
 uGet 0 a S fun v2 S =>
 uCall C 18 [v2, (.s [110, 101, 119])] S fun v3 S =>
 κ a c d e v3 g h S
def u76_6 (C : CU) := m7 fun a c d e f g h S κ =>
 uEq true .neq f (.n 0) S fun v0 S =>
 κ a c d e f g v0 S
def u76_7 := k7 fun a c d e f g h => h
def u76_8 (C : CU) := m7 fun a c d e f g h S κ =>
 κ a c f e f g h S
def u76_9 (C : CU) := m7 fun a c d e f g h S κ =>
 uGet 0 a S fun v2 S =>
 uCall C 21 [v2, (.s [110, 101, 119]), (.s [108, 111, 103])] S fun v3 S =>
 κ a c v3 e f g h S
def u76r (v : W7) (S : FAW) : RU := W7.rec (motive := fun _ => RU) (fun a c d e f g h => .ok d S) v
def u76b (C : CU) (n : Nat) : CdU W7 := seqU (u76_0 C) (seqU (seqU (u76_1 C) (seqU (u76_2 C) (condU u76_3 (seqU (u76_4 C) (retU)) (skipU)))) (seqU (seqU (u76_5 C) (seqU (u76_6 C) (condU u76_7 (seqU (u76_8 C) (retU)) (skipU)))) (seqU (u76_9 C) (retU))))
def u76 : Fu := fun C n args S => u76b C n ((fu7 0 1 4 5 6 14 22).ent (argU args)) S fun o v S => exU o (u76r v S) (fun _ => .no) (u76r v S)
/-! slices.Grow[[]byte,byte] -/
def u81_0 (C : CU) := m5 fun a c d e f S κ =>
 κ a c .nl e f S
def u81_1 (C : CU) := m5 fun a c d e f S κ =>
 uCmp ltN .lss c (.n 0) S fun v0 S =>
 κ a c d v0 f S
def u81_2 := k5 fun a c d e f => e
def u81_3 (C : CU) := m5 fun a c d e f S κ =>
 uNo S fun v0 S =>
 uNo S fun v1 S =>
 κ a c d e f S
def u81_4 (C : CU) := m5 fun a c d e f S κ =>
 uCapn a S fun v0 S =>
 uLen false a S fun v1 S =>
 uSub v0 v1 S fun v2 S =>
 uSub c v2 S fun v3 S =>
 κ a v3 d e f S
def u81_5 (C : CU) := m5 fun a c d e f S κ =>
 uCmp (fun a b => ltN b a) .gtr c (.n 0) S fun v0 S =>
 κ a c d e v0 S
def u81_6 := k5 fun a c d e f => f
def u81_7 (C : CU) := m5 fun a c d e f S κ =>
 uCapn a S fun v0 S =>
 uSlV 1 a none (some v0) none S fun v1 S =>
 uAppzF 5 1 1 [(.b 0)] v1 c S fun v2 S =>
 uLen false a S fun v3 S =>
 uSlV 1 v2 none (some v3) none S fun v4 S =>
 κ v4 c d e f S
def u81_8 (C : CU) := m5 fun a c d e f S κ =>
 κ a c a e f S
def u81r (v : W5) (S : FAW) : RU := W5.rec (motive := fun _ => RU) (fun a c d e f => .ok d S) v
def u81b (C : CU) (n : Nat) : CdU W5 := seqU (u81_0 C) (seqU (seqU (u81_1 C) (condU u81_2 (u81_3 C) (skipU))) (seqU (seqU (u81_4 C) (seqU (u81_5 C) (condU u81_6 (u81_7 C) (skipU)))) (seqU (u81_8 C) (retU))))
def u81 : Fu := fun C n args S => u81b C n ((fu5 0 1 4 6 16).ent (argU args)) S fun o v S => exU o (u81r v S) (fun _ => .no) (u81r v S)
/-! assayer/octet.Take -/
def u86_0 (C : CU) := m8 fun a c d e f g h i S κ =>
 κ a c (.i .u64 0) (.n 0) f g h i S
def u86_1 (C : CU) := m8 fun a c d e f g h i S κ =>
 uCmp ltN .lss c (.n 0) S fun v0 S =>
 eT v0 fun b => cn b
 (κ a c d e f (.t true) h i S)
 (uCmp (fun a b => ltN b a) .gtr c (.n 8) S fun v1 S =>
 κ a c d e f v1 h i S)
def u86_2 := k8 fun a c d e f g h i => g
def u86_3 (C : CU) := m8 fun a c d e f g h i S κ =>
 κ a c (.i .u64 0) (.n 1) f g h i S
def u86_4 (C : CU) := m8 fun a c d e f g h i S κ =>
 uLen false a S fun v0 S =>
 uCmp (fun a b => ltN b a) .gtr c v0 S fun v1 S =>
 κ a c d e f g v1 i S
def u86_5 := k8 fun a c d e f g h i => h
def u86_6 (C : CU) := m8 fun a c d e f g h i S κ =>
 κ a c (.i .u64 0) (.n 3) f g h i S
def u86_7 (C : CU) := m8 fun a c d e f g h i S κ =>
 uSub c (.n 1) S fun v0 S =>
 uMul (.n 8) v0 S fun v1 S =>
 κ a c d e v1 g h i S
def u86_8 (C : CU) := m8 fun a c d e f g h i S κ =>
 uCmp (fun a b => Nat.ble b a) .geq f (.n 0) S fun v0 S =>
 κ a c d e f g h v0 S
def u86_9 := k8 fun a c d e f g h i => i
def u86_10 (C : CU) := m8 fun a c d e f g h i S κ =>
 uSub c (.n 1) S fun v0 S =>
 uQuo true .quo f (.n 8) S fun v1 S =>
 uSub v0 v1 S fun v2 S =>
 uIad 1 a v2 S fun v3 S =>
 uLd none v3 S fun v4 S =>
 uCvI .u64 v4 S fun v5 S =>
 uSlow .shl v5 f S fun v6 S =>
 uSlow .or d v6 S fun v7 S =>
 κ a c v7 e f g h i S
def u86_11 (C : CU) := m8 fun a c d e f g h i S κ =>
 uSub f (.n 8) S fun v0 S =>
 κ a c d e v0 g h i S
def u86_12 (C : CU) (n : Nat) : CdU W8 := seqU (seqU (u86_8 C) (condU u86_9 (skipU) (exitU 0))) (seqU (blockU 1 (u86_10 C)) (u86_11 C))
def u86_13 (C : CU) := m8 fun a c d e f g h i S κ =>
 κ a c d (.n 0) f g h i S
def u86r (v : W8) (S : FAW) : RU := W8.rec (motive := fun _ => RU) (fun a c d e f g h i => .ok (.u [d, e]) S) v
def u86b (C : CU) (n : Nat) : CdU W8 := seqU (u86_0 C) (seqU (seqU (u86_1 C) (condU u86_2 (seqU (u86_3 C) (retU)) (skipU))) (seqU (seqU (u86_4 C) (condU u86_5 (seqU (u86_6 C) (retU)) (skipU))) (seqU (seqU (u86_7 C) (blockU 0 (loopU n (u86_12 C n)))) (seqU (u86_13 C) (retU)))))
def u86 : Fu := fun C n args S => u86b C n ((fu8 0 1 4 5 6 12 16 21).ent (argU args)) S fun o v S => exU o (u86r v S) (fun _ => .no) (u86r v S)
/-! assayer/octet.Sum -/
def u87_0 (C : CU) := m8 fun a c d e f g h i S κ =>
 κ a (.i .u32 0) d e f g h i S
def u87_1 (C : CU) := m8 fun a c d e f g h i S κ =>
 κ a c (.i .u32 4294967295) e f g h i S
def u87_2 (C : CU) := m8 fun a c d e f g h i S κ =>
 uLen false a S fun v0 S =>
 uMul (.n 8) v0 S fun v1 S =>
 κ a c d e v1 (.n 0) h i S
def u87_3 (C : CU) := m8 fun a c d e f g h i S κ =>
 uCmp ltN .lss g f S fun v0 S =>
 κ a c d e f g v0 i S
def u87_4 := k8 fun a c d e f g h i => h
def u87_5 (C : CU) := m8 fun a c d e f g h i S κ =>
 κ a c d g f g h i S
def u87_6 (C : CU) := m8 fun a c d e f g h i S κ =>
 uQuo false .rem e (.n 8) S fun v0 S =>
 uEq false .eql v0 (.n 0) S fun v1 S =>
 κ a c d e f g h v1 S
def u87_7 := k8 fun a c d e f g h i => i
def u87_8 (C : CU) := m8 fun a c d e f g h i S κ =>
 uQuo true .quo e (.n 8) S fun v0 S =>
 uIad 1 a v0 S fun v1 S =>
 uLd none v1 S fun v2 S =>
 uCvI .u32 v2 S fun v3 S =>
 uSlow .xor d v3 S fun v4 S =>
 κ a c v4 e f g h i S
def u87_9 (C : CU) := m8 fun a c d e f g h i S κ =>
 uCall C 94 [d] S fun v0 S =>
 κ a c v0 e f g h i S
def u87_10 (C : CU) := m8 fun a c d e f g h i S κ =>
 uAdd g (.n 1) S fun v0 S =>
 κ a c d e f v0 h i S
def u87_11 (C : CU) (n : Nat) : CdU W8 := seqU (u87_3 C) (seqU (condU u87_4 (skipU) (exitU 0)) (seqU (blockU 1 (seqU (u87_5 C) (seqU (seqU (u87_6 C) (condU u87_7 (u87_8 C) (skipU))) (u87_9 C)))) (u87_10 C)))
def u87_12 (C : CU) := m8 fun a c d e f g h i S κ =>
 uSlow .xor d (.i .u32 4294967295) S fun v0 S =>
 κ a v0 d e f g h i S
def u87r (v : W8) (S : FAW) : RU := W8.rec (motive := fun _ => RU) (fun a c d e f g h i => .ok c S) v
def u87b (C : CU) (n : Nat) : CdU W8 := seqU (u87_0 C) (seqU (u87_1 C) (seqU (seqU (u87_2 C) (blockU 0 (loopU n (u87_11 C n)))) (seqU (u87_12 C) (retU))))
def u87 : Fu := fun C n args S => u87b C n ((fu8 0 2 3 4 7 8 9 13).ent (argU args)) S fun o v S => exU o (u87r v S) (fun _ => .no) (u87r v S)
/-! assayer/assayerref1.Take -/
def u88_0 (C : CU) := m9 fun a c d e f g h i j S κ =>
 κ a c (.i .u64 0) (.n 0) f g h i j S
def u88_1 (C : CU) := m9 fun a c d e f g h i j S κ =>
 uCmp ltN .lss c (.n 0) S fun v0 S =>
 eT v0 fun b => cn b
 (κ a c d e f g (.t true) i j S)
 (uCmp (fun a b => ltN b a) .gtr c (.n 8) S fun v1 S =>
 κ a c d e f g v1 i j S)
def u88_2 := k9 fun a c d e f g h i j => h
def u88_3 (C : CU) := m9 fun a c d e f g h i j S κ =>
 κ a c (.i .u64 0) (.n 1) f g h i j S
def u88_4 (C : CU) := m9 fun a c d e f g h i j S κ =>
 uLen false a S fun v0 S =>
 uCmp (fun a b => ltN b a) .gtr c v0 S fun v1 S =>
 κ a c d e f g h v1 j S
def u88_5 := k9 fun a c d e f g h i j => i
def u88_6 (C : CU) := m9 fun a c d e f g h i j S κ =>
 κ a c (.i .u64 0) (.n 3) f g h i j S
def u88_7 (C : CU) := m9 fun a c d e f g h i j S κ =>
 κ a c d e (.i .u64 0) g h i j S
def u88_8 (C : CU) := m9 fun a c d e f g h i j S κ =>
 κ a c d e f (.n 0) h i j S
def u88_9 (C : CU) := m9 fun a c d e f g h i j S κ =>
 uCmp ltN .lss g c S fun v0 S =>
 κ a c d e f g h i v0 S
def u88_10 := k9 fun a c d e f g h i j => j
def u88_11 (C : CU) := m9 fun a c d e f g h i j S κ =>
 uMul f (.i .u64 256) S fun v0 S =>
 uIad 1 a g S fun v1 S =>
 uLd none v1 S fun v2 S =>
 uCvI .u64 v2 S fun v3 S =>
 uAdd v0 v3 S fun v4 S =>
 κ a c d e v4 g h i j S
def u88_12 (C : CU) := m9 fun a c d e f g h i j S κ =>
 uAdd g (.n 1) S fun v0 S =>
 κ a c d e f v0 h i j S
def u88_13 (C : CU) (n : Nat) : CdU W9 := seqU (seqU (u88_9 C) (condU u88_10 (skipU) (exitU 1))) (seqU (blockU 2 (u88_11 C)) (u88_12 C))
def u88_14 (C : CU) := m9 fun a c d e f g h i j S κ =>
 κ a c f (.n 0) f g h i j S
def u88r (v : W9) (S : FAW) : RU := W9.rec (motive := fun _ => RU) (fun a c d e f g h i j => .ok (.u [d, e]) S) v
def u88b (C : CU) (n : Nat) : CdU W9 := seqU (u88_0 C) (seqU (blockU 0 (seqU (u88_1 C) (condU u88_2 (seqU (u88_3 C) (retU)) (seqU (u88_4 C) (condU u88_5 (seqU (u88_6 C) (retU)) (skipU)))))) (seqU (u88_7 C) (seqU (seqU (u88_8 C) (blockU 1 (loopU n (u88_13 C n)))) (seqU (u88_14 C) (retU)))))
def u88 : Fu := fun C n args S => u88b C n ((fu9 0 1 4 5 6 7 8 15 22).ent (argU args)) S fun o v S => exU o (u88r v S) (fun _ => .no) (u88r v S)
/-! slices.Contains[[]string,string] -/
def u89_0 (C : CU) := m3 fun a c d S κ =>
 κ a c (.t false) S
def u89_1 (C : CU) := m3 fun a c d S κ =>
 uCall C 95 [a, c] S fun v0 S =>
 uCmp (fun a b => Nat.ble b a) .geq v0 (.n 0) S fun v1 S =>
 κ a c v1 S
def u89r (v : W3) (S : FAW) : RU := W3.rec (motive := fun _ => RU) (fun a c d => .ok d S) v
def u89b (C : CU) (n : Nat) : CdU W3 := seqU (u89_0 C) (seqU (u89_1 C) (retU))
def u89 : Fu := fun C n args S => u89b C n ((fu3 0 1 4).ent (argU args)) S fun o v S => exU o (u89r v S) (fun _ => .no) (u89r v S)
/-! assayer/octet.Put -/
def u90_0 (C : CU) := m8 fun a c d e f g h i S κ =>
 κ a c d .nl f g h i S
def u90_1 (C : CU) := m8 fun a c d e f g h i S κ =>
 uCmp ltN .lss d (.n 0) S fun v0 S =>
 eT v0 fun b => cn b
 (κ a c d e f g (.t true) i S)
 (uCmp (fun a b => ltN b a) .gtr d (.n 8) S fun v1 S =>
 κ a c d e f g v1 i S)
def u90_2 := k8 fun a c d e f g h i => h
def u90_3 (C : CU) := m8 fun a c d e f g h i S κ =>
 κ a c (.n 0) e f g h i S
def u90_4 (C : CU) := m8 fun a c d e f g h i S κ =>
 uLen false a S fun v0 S =>
 uAdd v0 d S fun v1 S =>
 uMksF 5 1 1 [(.b 0)] v1 v1 S fun v2 S =>
 κ a c d e v2 g h i S
def u90_5 (C : CU) := m8 fun a c d e f g h i S κ =>
 uCpy 1 f a S fun v0 S =>
 κ a c d e f g h i S
def u90_6 (C : CU) := m8 fun a c d e f g h i S κ =>
 uLen false f S fun v0 S =>
 uSub v0 (.n 1) S fun v1 S =>
 κ a c d e f v1 h i S
def u90_7 (C : CU) := m8 fun a c d e f g h i S κ =>
 uLen false a S fun v0 S =>
 uCmp (fun a b => Nat.ble b a) .geq g v0 S fun v1 S =>
 κ a c d e f g h v1 S
def u90_8 := k8 fun a c d e f g h i => i
def u90_9 (C : CU) := m8 fun a c d e f g h i S κ =>
 uCvI .u8 c S fun v0 S =>
 uIad 1 f g S fun v1 S =>
 uSt 1 v1 v0 S fun v2 S =>
 κ a c d e f g h i S
def u90_10 (C : CU) := m8 fun a c d e f g h i S κ =>
 uSlow .shr c (.i .u64 8) S fun v0 S =>
 κ a v0 d e f g h i S
def u90_11 (C : CU) := m8 fun a c d e f g h i S κ =>
 uSub g (.n 1) S fun v0 S =>
 κ a c d e f v0 h i S
def u90_12 (C : CU) (n : Nat) : CdU W8 := seqU (seqU (u90_7 C) (condU u90_8 (skipU) (exitU 0))) (seqU (blockU 1 (seqU (u90_9 C) (u90_10 C))) (u90_11 C))
def u90_13 (C : CU) := m8 fun a c d e f g h i S κ =>
 κ a c d f f g h i S
def u90r (v : W8) (S : FAW) : RU := W8.rec (motive := fun _ => RU) (fun a c d e f g h i => .ok e S) v
def u90b (C : CU) (n : Nat) : CdU W8 := seqU (u90_0 C) (seqU (seqU (u90_1 C) (condU u90_2 (u90_3 C) (skipU))) (seqU (u90_4 C) (seqU (u90_5 C) (seqU (seqU (u90_6 C) (blockU 0 (loopU n (u90_12 C n)))) (seqU (u90_13 C) (retU))))))
def u90 : Fu := fun C n args S => u90b C n ((fu8 0 1 2 6 7 8 14 29).ent (argU args)) S fun o v S => exU o (u90r v S) (fun _ => .no) (u90r v S)
/-! assayer/octet.turned -/
def u94_0 (C : CU) := m2 fun a c S κ =>
 κ a (.i .u32 0) S
def u94_1 (C : CU) := m2 fun a c S κ =>
 uSlow .shr a (.i .u64 1) S fun v0 S =>
 uSlow .and a (.i .u32 1) S fun v1 S =>
 uUn .neg v1 S fun v2 S =>
 uSlow .and (.i .u32 2197175160) v2 S fun v3 S =>
 uSlow .xor v0 v3 S fun v4 S =>
 κ a v4 S
def u94r (v : W2) (S : FAW) : RU := W2.rec (motive := fun _ => RU) (fun a c => .ok c S) v
def u94b (C : CU) (n : Nat) : CdU W2 := seqU (u94_0 C) (seqU (u94_1 C) (retU))
def u94 : Fu := fun C n args S => u94b C n ((fu2 0 2).ent (argU args)) S fun o v S => exU o (u94r v S) (fun _ => .no) (u94r v S)
/-! slices.Index[[]string,string] -/
def u95_0 (C : CU) := m8 fun a c d e f g h i S κ =>
 κ a c (.n 0) e f g h i S
def u95_1 (C : CU) := m8 fun a c d e f g h i S κ =>
 uLen false a S fun v0 S =>
 κ a c d e v0 (.n 0) h i S
def u95_2 (C : CU) := m8 fun a c d e f g h i S κ =>
 uCmp ltN .lss g f S fun v0 S =>
 κ a c d e f g v0 i S
def u95_3 := k8 fun a c d e f g h i => h
def u95_4 (C : CU) := m8 fun a c d e f g h i S κ =>
 κ a c d g f g h i S
def u95_5 (C : CU) := m8 fun a c d e f g h i S κ =>
 uIad 1 a e S fun v0 S =>
 uLd none v0 S fun v1 S =>
 uEq false .eql c v1 S fun v2 S =>
 κ a c d e f g h v2 S
def u95_6 := k8 fun a c d e f g h i => i
def u95_7 (C : CU) := m8 fun a c d e f g h i S κ =>
 κ a c e e f g h i S
def u95_8 (C : CU) := m8 fun a c d e f g h i S κ =>
 uAdd g (.n 1) S fun v0 S =>
 κ a c d e f v0 h i S
def u95_9 (C : CU) (n : Nat) : CdU W8 := seqU (u95_2 C) (seqU (condU u95_3 (skipU) (exitU 0)) (seqU (blockU 1 (seqU (u95_4 C) (seqU (u95_5 C) (condU u95_6 (seqU (u95_7 C) (retU)) (skipU))))) (u95_8 C)))
def u95_10 (C : CU) := m8 fun a c d e f g h i S κ =>
 κ a c (.i .i64 (-1)) e f g h i S
def u95r (v : W8) (S : FAW) : RU := W8.rec (motive := fun _ => RU) (fun a c d e f g h i => .ok d S) v
def u95b (C : CU) (n : Nat) : CdU W8 := seqU (u95_0 C) (seqU (seqU (u95_1 C) (blockU 0 (loopU n (u95_9 C n)))) (seqU (u95_10 C) (retU)))
def u95 : Fu := fun C n args S => u95b C n ((fu8 0 1 4 5 7 8 9 16).ent (argU args)) S fun o v S => exU o (u95r v S) (fun _ => .no) (u95r v S)
end
end Go.Proofs.Ythclmjelknibhaa.Ev
