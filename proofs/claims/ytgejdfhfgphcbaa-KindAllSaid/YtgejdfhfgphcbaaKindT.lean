/- Functions of the program, each told by what goes on behind each step: printed by a program of ours. -/
import Derived.Test.YtgejdfhfgphcbaaKindX
import Derived.Test.YtgejdfhfgphcbaaKindW
namespace Go.Proofs.Ytgejdfhfgphcbaa.Ev
open Go Go.RowKit
set_option linter.unusedVariables false
set_option linter.constructorNameAsVariable false
noncomputable section
/-! assayer/assayerlaw6.KindAll -/
def u6_0 (C : CU) := m18 fun a c d e f g h i j k l m o p q r s t S κ =>
 κ a c (.t false) e f g h i j k l m o p q r s t S
def u6_1 (C : CU) := m18 fun a c d e f g h i j k l m o p q r s t S κ =>
 uCall C 20 [] S fun v0 S =>
 uNot v0 S fun v1 S =>
 κ a c d e f g h i j k l m o v1 q r s t S
def u6_2 := k18 fun a c d e f g h i j k l m o p q r s t => p
def u6_3 (C : CU) := m18 fun a c d e f g h i j k l m o p q r s t S κ =>
 κ a c (.t false) e f g h i j k l m o p q r s t S
def u6_4 (C : CU) := m18 fun a c d e f g h i j k l m o p q r s t S κ =>
 uLen true a S fun v0 S =>
 uCmp (fun a b => ltN b a) .gtr v0 (.n 200) S fun v1 S =>
 κ a c d e f g h i j k l m o p v1 r s t S
def u6_5 := k18 fun a c d e f g h i j k l m o p q r s t => q
def u6_6 (C : CU) := m18 fun a c d e f g h i j k l m o p q r s t S κ =>
 κ a c (.t true) e f g h i j k l m o p q r s t S
def u6_7 (C : CU) := m18 fun a c d e f g h i j k l m o p q r s t S κ =>
 uCall C 21 [a] S fun v0 S =>
 uExt 0 v0 S fun v1 S =>
 uExt 1 v0 S fun v2 S =>
 uExt 2 v0 S fun v3 S =>
 uExt 3 v0 S fun v4 S =>
 uExt 4 v0 S fun v5 S =>
 κ a c d v1 v2 v3 v4 v5 j k l m o p q r s t S
def u6_8 (C : CU) := m18 fun a c d e f g h i j k l m o p q r s t S κ =>
 uCall C 22 [a] S fun v0 S =>
 uExt 0 v0 S fun v1 S =>
 uExt 1 v0 S fun v2 S =>
 uNewF 38 4 [(.n 0), (.s []), (.s []), (.s [])] S fun v3 S =>
 uSt 4 v3 v1 S fun v4 S =>
 κ a c d e f g h i v3 v2 l m o p q r s t S
def u6_9 (C : CU) := m18 fun a c d e f g h i j k l m o p q r s t S κ =>
 uCall C 23 [a] S fun v0 S =>
 uCall C 24 [a] S fun v1 S =>
 κ a c d e f g h i j k v0 v1 o p q r s t S
def u6_10 (C : CU) := m18 fun a c d e f g h i j k l m o p q r s t S κ =>
 uLen false l S fun v0 S =>
 uLen false m S fun v1 S =>
 uEq true .neq v0 v1 S fun v2 S =>
 κ a c d e f g h i j k l m o p q v2 s t S
def u6_11 := k18 fun a c d e f g h i j k l m o p q r s t => r
def u6_12 (C : CU) := m18 fun a c d e f g h i j k l m o p q r s t S κ =>
 κ a c (.t false) e f g h i j k l m o p q r s t S
def u6_13 (C : CU) := m18 fun a c d e f g h i j k l m o p q r s t S κ =>
 κ a c d e f g h i j k l m (.n 0) p q r s t S
def u6_14 (C : CU) := m18 fun a c d e f g h i j k l m o p q r s t S κ =>
 uLen false m S fun v0 S =>
 uCmp ltN .lss o v0 S fun v1 S =>
 κ a c d e f g h i j k l m o p q r v1 t S
def u6_15 := k18 fun a c d e f g h i j k l m o p q r s t => s
def u6_16 (C : CU) := m18 fun a c d e f g h i j k l m o p q r s t S κ =>
 uIad 1 l o S fun v0 S =>
 uLd none v0 S fun v1 S =>
 uIad 1 m o S fun v2 S =>
 uLd none v2 S fun v3 S =>
 uEq true .neq v1 v3 S fun v4 S =>
 κ a c d e f g h i j k l m o p q r s v4 S
def u6_17 := k18 fun a c d e f g h i j k l m o p q r s t => t
def u6_18 (C : CU) := m18 fun a c d e f g h i j k l m o p q r s t S κ =>
 κ a c (.t false) e f g h i j k l m o p q r s t S
def u6_19 (C : CU) := m18 fun a c d e f g h i j k l m o p q r s t S κ =>
 uAdd o (.n 1) S fun v0 S =>
 κ a c d e f g h i j k l m v0 p q r s t S
def u6_20 (C : CU) (n : Nat) : CdU W18 := seqU (seqU (u6_14 C) (condU u6_15 (skipU) (exitU 0))) (seqU (blockU 1 (seqU (u6_16 C) (condU u6_17 (seqU (u6_18 C) (retU)) (skipU)))) (u6_19 C))
def u6_21 (C : CU) := m18 fun a c d e f g h i j k l m o p q r s t S κ =>
 uFad 0 j S fun v0 S =>
 uLd none v0 S fun v1 S =>
 uEq false .eql e v1 S fun v2 S =>
 eT v2 fun b => cn b
 (uFad 1 j S fun v3 S =>
 uLd none v3 S fun v4 S =>
 uEq false .eql f v4 S fun v5 S =>
 eT v5 fun b => cn b
 (uFad 2 j S fun v6 S =>
 uLd none v6 S fun v7 S =>
 uEq false .eql g v7 S fun v8 S =>
 eT v8 fun b => cn b
 (uFad 3 j S fun v9 S =>
 uLd none v9 S fun v10 S =>
 uEq false .eql h v10 S fun v11 S =>
 eT v11 fun b => cn b
 (uEq false .eql i k S fun v12 S =>
 eT v12 fun b => cn b
 (uCall C 25 [a] S fun v13 S =>
 uEq false .eql k (.n 0) S fun v14 S =>
 uEqB false v13 v14 S fun v15 S =>
 eT v15 fun b => cn b
 (uCall C 26 [a] S fun v16 S =>
 uCall C 27 [a] S fun v17 S =>
 uEq false .eql v16 v17 S fun v18 S =>
 eT v18 fun b => cn b
 (uCall C 28 [c] S fun v19 S =>
 uCall C 29 [c] S fun v20 S =>
 uEq false .eql v19 v20 S fun v21 S =>
 κ a c v21 e f g h i j k l m o p q r s t S)
 (κ a c (.t false) e f g h i j k l m o p q r s t S))
 (κ a c (.t false) e f g h i j k l m o p q r s t S))
 (κ a c (.t false) e f g h i j k l m o p q r s t S))
 (κ a c (.t false) e f g h i j k l m o p q r s t S))
 (κ a c (.t false) e f g h i j k l m o p q r s t S))
 (κ a c (.t false) e f g h i j k l m o p q r s t S))
 (κ a c (.t false) e f g h i j k l m o p q r s t S)
def u6r (v : W18) (S : FAW) : RU := W18.rec (motive := fun _ => RU) (fun a c d e f g h i j k l m o p q r s t => .ok d S) v
def u6b (C : CU) (n : Nat) : CdU W18 := seqU (u6_0 C) (seqU (seqU (u6_1 C) (condU u6_2 (seqU (u6_3 C) (retU)) (skipU))) (seqU (seqU (u6_4 C) (condU u6_5 (seqU (u6_6 C) (retU)) (skipU))) (seqU (u6_7 C) (seqU (u6_8 C) (seqU (u6_9 C) (seqU (seqU (u6_10 C) (condU u6_11 (seqU (u6_12 C) (retU)) (skipU))) (seqU (seqU (u6_13 C) (blockU 0 (loopU n (u6_20 C n)))) (seqU (u6_21 C) (retU)))))))))
def u6 : Fu := fun C n args S => u6b C n ((fu18 0 1 4 5 6 7 8 9 10 11 12 13 14 16 19 41 45 56).ent (argU args)) S fun o v S => exU o (u6r v S) (fun _ => .no) (u6r v S)
/-! assayer/assayerlaw6.KindBack -/
def u7_0 (C : CU) := m12 fun a c d e f g h i j k l m S κ =>
 κ a (.t false) d e f g h i j k l m S
def u7_1 (C : CU) := m12 fun a c d e f g h i j k l m S κ =>
 uCall C 20 [] S fun v0 S =>
 uNot v0 S fun v1 S =>
 κ a c d e f g h i v1 k l m S
def u7_2 := k12 fun a c d e f g h i j k l m => j
def u7_3 (C : CU) := m12 fun a c d e f g h i j k l m S κ =>
 κ a (.t false) d e f g h i j k l m S
def u7_4 (C : CU) := m12 fun a c d e f g h i j k l m S κ =>
 uLen true a S fun v0 S =>
 uCmp (fun a b => ltN b a) .gtr v0 (.n 200) S fun v1 S =>
 κ a c d e f g h i j v1 l m S
def u7_5 := k12 fun a c d e f g h i j k l m => k
def u7_6 (C : CU) := m12 fun a c d e f g h i j k l m S κ =>
 κ a (.t true) d e f g h i j k l m S
def u7_7 (C : CU) := m12 fun a c d e f g h i j k l m S κ =>
 uCall C 21 [a] S fun v0 S =>
 uExt 0 v0 S fun v1 S =>
 uExt 1 v0 S fun v2 S =>
 uExt 2 v0 S fun v3 S =>
 uExt 3 v0 S fun v4 S =>
 uExt 4 v0 S fun v5 S =>
 κ a c v1 v2 v3 v4 v5 i j k l m S
def u7_8 (C : CU) := m12 fun a c d e f g h i j k l m S κ =>
 uEq true .neq h (.n 0) S fun v0 S =>
 κ a c d e f g h i j k v0 m S
def u7_9 := k12 fun a c d e f g h i j k l m => l
def u7_10 (C : CU) := m12 fun a c d e f g h i j k l m S κ =>
 uEq false .eql d (.n 0) S fun v0 S =>
 eT v0 fun b => cn b
 (uEq false .eql e (.s []) S fun v1 S =>
 eT v1 fun b => cn b
 (uEq false .eql f (.s []) S fun v2 S =>
 eT v2 fun b => cn b
 (uEq false .eql g (.s []) S fun v3 S =>
 κ a v3 d e f g h i j k l m S)
 (κ a (.t false) d e f g h i j k l m S))
 (κ a (.t false) d e f g h i j k l m S))
 (κ a (.t false) d e f g h i j k l m S)
def u7_11 (C : CU) := m12 fun a c d e f g h i j k l m S κ =>
 uEq false .eql d (.n 15) S fun v0 S =>
 eT v0 fun b => cn b
 (κ a c d e f g h (.t true) j k l m S)
 (uEq false .eql d (.n 14) S fun v1 S =>
 eT v1 fun b => cn b
 (κ a c d e f g h (.t true) j k l m S)
 (uEq false .eql d (.n 13) S fun v2 S =>
 κ a c d e f g h v2 j k l m S))
def u7_12 (C : CU) := m12 fun a c d e f g h i j k l m S κ =>
 uCall C 30 [d, e, f, g] S fun v0 S =>
 uEq true .neq v0 a S fun v1 S =>
 eT v1 fun b => cn b
 (κ a c d e f g h i j k l (.t true) S)
 (uCall C 25 [f] S fun v2 S =>
 uEqB true i v2 S fun v3 S =>
 eT v3 fun b => cn b
 (κ a c d e f g h i j k l (.t true) S)
 (uEq false .eql d (.n 13) S fun v4 S =>
 uCall C 25 [g] S fun v5 S =>
 uEqB true v4 v5 S fun v6 S =>
 κ a c d e f g h i j k l v6 S))
def u7_13 := k12 fun a c d e f g h i j k l m => m
def u7_14 (C : CU) := m12 fun a c d e f g h i j k l m S κ =>
 κ a (.t false) d e f g h i j k l m S
def u7_15 (C : CU) := m12 fun a c d e f g h i j k l m S κ =>
 uNot i S fun v0 S =>
 eT v0 fun b => cn b
 (κ a (.t true) d e f g h i j k l m S)
 (uCall C 26 [a] S fun v1 S =>
 uCall C 26 [f] S fun v2 S =>
 uCall C 26 [g] S fun v3 S =>
 uMM true [v2, v3] S fun v4 S =>
 uAdd (.n 1) v4 S fun v5 S =>
 uEq false .eql v1 v5 S fun v6 S =>
 κ a v6 d e f g h i j k l m S)
def u7r (v : W12) (S : FAW) : RU := W12.rec (motive := fun _ => RU) (fun a c d e f g h i j k l m => .ok c S) v
def u7b (C : CU) (n : Nat) : CdU W12 := seqU (u7_0 C) (seqU (seqU (u7_1 C) (condU u7_2 (seqU (u7_3 C) (retU)) (skipU))) (seqU (seqU (u7_4 C) (condU u7_5 (seqU (u7_6 C) (retU)) (skipU))) (seqU (u7_7 C) (seqU (seqU (u7_8 C) (condU u7_9 (seqU (u7_10 C) (retU)) (skipU))) (seqU (u7_11 C) (seqU (seqU (u7_12 C) (condU u7_13 (seqU (u7_14 C) (retU)) (skipU))) (seqU (u7_15 C) (retU))))))))
def u7 : Fu := fun C n args S => u7b C n ((fu12 0 2 3 4 5 6 7 8 10 13 23 67).ent (argU args)) S fun o v S => exU o (u7r v S) (fun _ => .no) (u7r v S)
/-! assayer/assayerlaw6.KindNests -/
def u8_0 (C : CU) := m12 fun a c d e f g h i j k l m S κ =>
 κ a (.t false) d e f g h i j k l m S
def u8_1 (C : CU) := m12 fun a c d e f g h i j k l m S κ =>
 uCall C 20 [] S fun v0 S =>
 uNot v0 S fun v1 S =>
 κ a c d e f v1 h i j k l m S
def u8_2 := k12 fun a c d e f g h i j k l m => g
def u8_3 (C : CU) := m12 fun a c d e f g h i j k l m S κ =>
 κ a (.t false) d e f g h i j k l m S
def u8_4 (C : CU) := m12 fun a c d e f g h i j k l m S κ =>
 uLen false a S fun v0 S =>
 uCmp (fun a b => ltN b a) .gtr v0 (.n 20) S fun v1 S =>
 κ a c d e f g v1 i j k l m S
def u8_5 := k12 fun a c d e f g h i j k l m => h
def u8_6 (C : CU) := m12 fun a c d e f g h i j k l m S κ =>
 κ a (.t true) d e f g h i j k l m S
def u8_7 (C : CU) := m12 fun a c d e f g h i j k l m S κ =>
 κ a c (.s [105, 51, 50]) e f g h i j k l m S
def u8_8 (C : CU) := m12 fun a c d e f g h i j k l m S κ =>
 κ a c d (.n 0) f g h i j k l m S
def u8_9 (C : CU) := m12 fun a c d e f g h i j k l m S κ =>
 uLen false a S fun v0 S =>
 uCmp ltN .lss e v0 S fun v1 S =>
 κ a c d e f g h v1 j k l m S
def u8_10 := k12 fun a c d e f g h i j k l m => i
def u8_11 (C : CU) := m12 fun a c d e f g h i j k l m S κ =>
 uIad 1 a e S fun v0 S =>
 uLd none v0 S fun v1 S =>
 uQuo false .rem v1 (.b 3) S fun v2 S =>
 κ a c d e f g h i v2 k l m S
def u8_12 (C : CU) := m12 fun a c d e f g h i j k l m S κ =>
 uEq false .eql j (.b 0) S fun v0 S =>
 κ a c d e f g h i j v0 l m S
def u8_13 := k12 fun a c d e f g h i j k l m => k
def u8_14 (C : CU) := m12 fun a c d e f g h i j k l m S κ =>
 uAdd (.s [108, 105, 115, 116, 60]) d S fun v0 S =>
 uAdd v0 (.s [62]) S fun v1 S =>
 κ a c v1 e f g h i j k l m S
def u8_15 (C : CU) := m12 fun a c d e f g h i j k l m S κ =>
 uEq false .eql j (.b 1) S fun v0 S =>
 κ a c d e f g h i j k v0 m S
def u8_16 := k12 fun a c d e f g h i j k l m => l
def u8_17 (C : CU) := m12 fun a c d e f g h i j k l m S κ =>
 uAdd (.s [115, 101, 116, 60]) d S fun v0 S =>
 uAdd v0 (.s [62]) S fun v1 S =>
 κ a c v1 e f g h i j k l m S
def u8_18 (C : CU) := m12 fun a c d e f g h i j k l m S κ =>
 uAdd (.s [109, 97, 112, 60, 115, 116, 114, 105, 110, 103, 44]) d S fun v0 S =>
 uAdd v0 (.s [62]) S fun v1 S =>
 κ a c v1 e f g h i j k l m S
def u8_19 (C : CU) := m12 fun a c d e f g h i j k l m S κ =>
 uAdd e (.n 1) S fun v0 S =>
 κ a c d v0 f g h i j k l m S
def u8_20 (C : CU) (n : Nat) : CdU W12 := seqU (seqU (u8_9 C) (condU u8_10 (skipU) (exitU 0))) (seqU (blockU 1 (seqU (u8_11 C) (blockU 2 (seqU (u8_12 C) (condU u8_13 (u8_14 C) (seqU (u8_15 C) (condU u8_16 (u8_17 C) (u8_18 C)))))))) (u8_19 C))
def u8_21 (C : CU) := m12 fun a c d e f g h i j k l m S κ =>
 uCall C 21 [d] S fun v0 S =>
 uExt 0 v0 S fun v1 S =>
 uExt 1 v0 S fun v2 S =>
 uExt 2 v0 S fun v3 S =>
 uExt 3 v0 S fun v4 S =>
 uExt 4 v0 S fun v5 S =>
 κ a c d e v5 g h i j k l m S
def u8_22 (C : CU) := m12 fun a c d e f g h i j k l m S κ =>
 uLen false a S fun v0 S =>
 uCmp (fun a b => ltN b a) .gtr v0 (.n 12) S fun v1 S =>
 κ a c d e f g h i j k l v1 S
def u8_23 := k12 fun a c d e f g h i j k l m => m
def u8_24 (C : CU) := m12 fun a c d e f g h i j k l m S κ =>
 uEq false .eql f (.n 6) S fun v0 S =>
 eT v0 fun b => cn b
 (uCall C 25 [d] S fun v1 S =>
 uNot v1 S fun v2 S =>
 eT v2 fun b => cn b
 (uCall C 26 [d] S fun v3 S =>
 uEq false .eql v3 (.n 0) S fun v4 S =>
 κ a v4 d e f g h i j k l m S)
 (κ a (.t false) d e f g h i j k l m S))
 (κ a (.t false) d e f g h i j k l m S)
def u8_25 (C : CU) := m12 fun a c d e f g h i j k l m S κ =>
 uEq false .eql f (.n 0) S fun v0 S =>
 eT v0 fun b => cn b
 (uCall C 25 [d] S fun v1 S =>
 eT v1 fun b => cn b
 (uCall C 26 [d] S fun v2 S =>
 uLen false a S fun v3 S =>
 uEq false .eql v2 v3 S fun v4 S =>
 eT v4 fun b => cn b
 (uCall C 23 [d] S fun v5 S =>
 uLen false v5 S fun v6 S =>
 uEq false .eql v6 (.n 0) S fun v7 S =>
 κ a v7 d e f g h i j k l m S)
 (κ a (.t false) d e f g h i j k l m S))
 (κ a (.t false) d e f g h i j k l m S))
 (κ a (.t false) d e f g h i j k l m S)
def u8r (v : W12) (S : FAW) : RU := W12.rec (motive := fun _ => RU) (fun a c d e f g h i j k l m => .ok c S) v
def u8b (C : CU) (n : Nat) : CdU W12 := seqU (u8_0 C) (seqU (seqU (u8_1 C) (condU u8_2 (seqU (u8_3 C) (retU)) (skipU))) (seqU (seqU (u8_4 C) (condU u8_5 (seqU (u8_6 C) (retU)) (skipU))) (seqU (u8_7 C) (seqU (seqU (u8_8 C) (blockU 0 (loopU n (u8_20 C n)))) (seqU (u8_21 C) (seqU (seqU (u8_22 C) (condU u8_23 (seqU (u8_24 C) (retU)) (skipU))) (seqU (u8_25 C) (retU))))))))
def u8 : Fu := fun C n args S => u8b C n ((fu12 0 2 3 4 9 11 14 18 25 29 34 49).ent (argU args)) S fun o v S => exU o (u8r v S) (fun _ => .no) (u8r v S)
/-! assayer/assayerlaw6.KindForms -/
def u9_0 (C : CU) := m15 fun a c d e f g h i j k l m o p q S κ =>
 κ (.t false) c d e f g h i j k l m o p q S
def u9_1 (C : CU) := m15 fun a c d e f g h i j k l m o p q S κ =>
 uCall C 20 [] S fun v0 S =>
 uNot v0 S fun v1 S =>
 κ a c d e f g h i j k v1 m o p q S
def u9_2 := k15 fun a c d e f g h i j k l m o p q => l
def u9_3 (C : CU) := m15 fun a c d e f g h i j k l m o p q S κ =>
 κ (.t false) c d e f g h i j k l m o p q S
def u9_4 (C : CU) := m15 fun a c d e f g h i j k l m o p q S κ =>
 uLitF 9 1 [(.s [])] 15 [(0, 1, (.s [98, 111, 111, 108])), (1, 1, (.s [105, 56])), (2, 1, (.s [105, 49, 54])), (3, 1, (.s [105, 51, 50])), (4, 1, (.s [105, 54, 52])), (5, 1, (.s [100, 111, 117, 98, 108, 101])), (6, 1, (.s [115, 116, 114, 105, 110, 103])), (7, 1, (.s [98, 105, 110, 97, 114, 121])), (8, 1, (.s [108, 105, 115, 116, 60, 105, 56, 62])), (9, 1, (.s [115, 101, 116, 60, 97, 62])), (10, 1, (.s [109, 97, 112, 60, 105, 56, 44, 108, 105, 115, 116, 60, 98, 46, 99, 62, 62])), (11, 1, (.s [95, 97, 46, 98, 49])), (12, 1, (.s [98, 121, 116, 101])), (13, 1, (.s [115, 116, 114, 117, 99, 116])), (14, 1, (.s [97, 46, 105, 51, 50]))] S fun v0 S =>
 κ a v0 d e f g h i j k l m o p q S
def u9_5 (C : CU) := m15 fun a c d e f g h i j k l m o p q S κ =>
 uLitF 3 1 [(.n 0)] 15 [(0, 1, (.n 2)), (1, 1, (.n 3)), (2, 1, (.n 6)), (3, 1, (.n 8)), (4, 1, (.n 10)), (5, 1, (.n 4)), (6, 1, (.n 11)), (7, 1, (.n 16)), (8, 1, (.n 15)), (9, 1, (.n 14)), (10, 1, (.n 13)), (11, 1, (.n 0)), (12, 1, (.n 0)), (13, 1, (.n 0)), (14, 1, (.n 0))] S fun v0 S =>
 κ a c v0 e f g h i j k l m o p q S
def u9_6 (C : CU) := m15 fun a c d e f g h i j k l m o p q S κ =>
 uLitF 9 1 [(.s [])] 19 [(0, 1, (.s [])), (1, 1, (.s [108, 105, 115, 116])), (2, 1, (.s [108, 105, 115, 116, 60, 62])), (3, 1, (.s [108, 105, 115, 116, 60, 105, 56])), (4, 1, (.s [108, 105, 115, 116, 60, 105, 56, 62, 62])), (5, 1, (.s [109, 97, 112, 60, 105, 56, 62])), (6, 1, (.s [109, 97, 112, 60, 105, 56, 44, 32, 105, 56, 62])), (7, 1, (.s [109, 97, 112, 60, 105, 56, 44, 105, 56, 44, 105, 56, 62])), (8, 1, (.s [32, 105, 56])), (9, 1, (.s [105, 56, 32])), (10, 1, (.s [49, 97])), (11, 1, (.s [97, 46])), (12, 1, (.s [46, 97])), (13, 1, (.s [97, 46, 46, 98])), (14, 1, (.s [105, 56, 46, 120])), (15, 1, (.s [108, 105, 115, 116, 46, 120])), (16, 1, (.s [97, 46, 49])), (17, 1, (.s [115, 101, 116, 60, 108, 105, 115, 116, 62])), (18, 1, (.s [97, 45, 98]))] S fun v0 S =>
 κ a c d v0 f g h i j k l m o p q S
def u9_7 (C : CU) := m15 fun a c d e f g h i j k l m o p q S κ =>
 κ a c d e (.n 0) g h i j k l m o p q S
def u9_8 (C : CU) := m15 fun a c d e f g h i j k l m o p q S κ =>
 uLen false c S fun v0 S =>
 uCmp ltN .lss f v0 S fun v1 S =>
 κ a c d e f g h i j k l v1 o p q S
def u9_9 := k15 fun a c d e f g h i j k l m o p q => m
def u9_10 (C : CU) := m15 fun a c d e f g h i j k l m o p q S κ =>
 uIad 1 c f S fun v0 S =>
 uLd none v0 S fun v1 S =>
 uCall C 21 [v1] S fun v2 S =>
 uExt 0 v2 S fun v3 S =>
 uExt 1 v2 S fun v4 S =>
 uExt 2 v2 S fun v5 S =>
 uExt 3 v2 S fun v6 S =>
 uExt 4 v2 S fun v7 S =>
 κ a c d e f v3 v4 v7 j k l m o p q S
def u9_11 (C : CU) := m15 fun a c d e f g h i j k l m o p q S κ =>
 uEq true .neq i (.n 0) S fun v0 S =>
 eT v0 fun b => cn b
 (κ a c d e f g h i j k l m (.t true) p q S)
 (uIad 1 d f S fun v1 S =>
 uLd none v1 S fun v2 S =>
 uEq true .neq g v2 S fun v3 S =>
 eT v3 fun b => cn b
 (κ a c d e f g h i j k l m (.t true) p q S)
 (uEq false .eql g (.n 0) S fun v4 S =>
 uIad 1 c f S fun v5 S =>
 uLd none v5 S fun v6 S =>
 uEq false .eql h v6 S fun v7 S =>
 uEqB true v4 v7 S fun v8 S =>
 κ a c d e f g h i j k l m v8 p q S))
def u9_12 := k15 fun a c d e f g h i j k l m o p q => o
def u9_13 (C : CU) := m15 fun a c d e f g h i j k l m o p q S κ =>
 κ (.t false) c d e f g h i j k l m o p q S
def u9_14 (C : CU) := m15 fun a c d e f g h i j k l m o p q S κ =>
 uAdd f (.n 1) S fun v0 S =>
 κ a c d e v0 g h i j k l m o p q S
def u9_15 (C : CU) (n : Nat) : CdU W15 := seqU (seqU (u9_8 C) (condU u9_9 (skipU) (exitU 0))) (seqU (blockU 1 (seqU (u9_10 C) (seqU (u9_11 C) (condU u9_12 (seqU (u9_13 C) (retU)) (skipU))))) (u9_14 C))
def u9_16 (C : CU) := m15 fun a c d e f g h i j k l m o p q S κ =>
 κ a c d e f g h i (.n 0) k l m o p q S
def u9_17 (C : CU) := m15 fun a c d e f g h i j k l m o p q S κ =>
 uLen false e S fun v0 S =>
 uCmp ltN .lss j v0 S fun v1 S =>
 κ a c d e f g h i j k l m o v1 q S
def u9_18 := k15 fun a c d e f g h i j k l m o p q => p
def u9_19 (C : CU) := m15 fun a c d e f g h i j k l m o p q S κ =>
 uIad 1 e j S fun v0 S =>
 uLd none v0 S fun v1 S =>
 uCall C 21 [v1] S fun v2 S =>
 uExt 0 v2 S fun v3 S =>
 uExt 1 v2 S fun v4 S =>
 uExt 2 v2 S fun v5 S =>
 uExt 3 v2 S fun v6 S =>
 uExt 4 v2 S fun v7 S =>
 κ a c d e f g h i j v7 l m o p q S
def u9_20 (C : CU) := m15 fun a c d e f g h i j k l m o p q S κ =>
 uEq true .neq k (.n 2) S fun v0 S =>
 eT v0 fun b => cn b
 (κ a c d e f g h i j k l m o p (.t true) S)
 (uIad 1 e j S fun v1 S =>
 uLd none v1 S fun v2 S =>
 uCall C 25 [v2] S fun v3 S =>
 κ a c d e f g h i j k l m o p v3 S)
def u9_21 := k15 fun a c d e f g h i j k l m o p q => q
def u9_22 (C : CU) := m15 fun a c d e f g h i j k l m o p q S κ =>
 κ (.t false) c d e f g h i j k l m o p q S
def u9_23 (C : CU) := m15 fun a c d e f g h i j k l m o p q S κ =>
 uAdd j (.n 1) S fun v0 S =>
 κ a c d e f g h i v0 k l m o p q S
def u9_24 (C : CU) (n : Nat) : CdU W15 := seqU (seqU (u9_17 C) (condU u9_18 (skipU) (exitU 2))) (seqU (blockU 3 (seqU (u9_19 C) (seqU (u9_20 C) (condU u9_21 (seqU (u9_22 C) (retU)) (skipU))))) (u9_23 C))
def u9_25 (C : CU) := m15 fun a c d e f g h i j k l m o p q S κ =>
 uCall C 30 [(.n 99), (.s [120]), (.s [97]), (.s [98])] S fun v0 S =>
 uEq false .eql v0 (.s []) S fun v1 S =>
 eT v1 fun b => cn b
 (uCall C 30 [(.n 0), (.s [120]), (.s []), (.s [])] S fun v2 S =>
 uEq false .eql v2 (.s [120]) S fun v3 S =>
 eT v3 fun b => cn b
 (uCall C 28 [(.n 16)] S fun v4 S =>
 uEq false .eql v4 (.n 11) S fun v5 S =>
 eT v5 fun b => cn b
 (uCall C 28 [(.n 5)] S fun v6 S =>
 uEq false .eql v6 (.n 0) S fun v7 S =>
 eT v7 fun b => cn b
 (uCall C 28 [(.n 0)] S fun v8 S =>
 uEq false .eql v8 (.n 0) S fun v9 S =>
 eT v9 fun b => cn b
 (uCall C 28 [(.n 12)] S fun v10 S =>
 uEq false .eql v10 (.n 12) S fun v11 S =>
 κ v11 c d e f g h i j k l m o p q S)
 (κ (.t false) c d e f g h i j k l m o p q S))
 (κ (.t false) c d e f g h i j k l m o p q S))
 (κ (.t false) c d e f g h i j k l m o p q S))
 (κ (.t false) c d e f g h i j k l m o p q S))
 (κ (.t false) c d e f g h i j k l m o p q S)
def u9r (v : W15) (S : FAW) : RU := W15.rec (motive := fun _ => RU) (fun a c d e f g h i j k l m o p q => .ok a S) v
def u9b (C : CU) (n : Nat) : CdU W15 := seqU (u9_0 C) (seqU (seqU (u9_1 C) (condU u9_2 (seqU (u9_3 C) (retU)) (skipU))) (seqU (u9_4 C) (seqU (u9_5 C) (seqU (u9_6 C) (seqU (seqU (u9_7 C) (blockU 0 (loopU n (u9_15 C n)))) (seqU (seqU (u9_16 C) (blockU 2 (loopU n (u9_24 C n)))) (seqU (u9_25 C) (retU))))))))
def u9 : Fu := fun C n args S => u9b C n ((fu15 0 1 2 3 4 5 6 9 10 15 17 24 58 62 84).ent (argU args)) S fun o v S => exU o (u9r v S) (fun _ => .no) (u9r v S)
/-! assayer/assayerlaw6.KindNames -/
def u10_0 (C : CU) := m21 fun a c d e f g h i j k l m o p q r s t w x y S κ =>
 κ a (.t false) d e f g h i j k l m o p q r s t w x y S
def u10_1 (C : CU) := m21 fun a c d e f g h i j k l m o p q r s t w x y S κ =>
 uCall C 20 [] S fun v0 S =>
 uNot v0 S fun v1 S =>
 κ a c d e f g h i j k l m v1 p q r s t w x y S
def u10_2 := k21 fun a c d e f g h i j k l m o p q r s t w x y => o
def u10_3 (C : CU) := m21 fun a c d e f g h i j k l m o p q r s t w x y S κ =>
 κ a (.t false) d e f g h i j k l m o p q r s t w x y S
def u10_4 (C : CU) := m21 fun a c d e f g h i j k l m o p q r s t w x y S κ =>
 uLen false a S fun v0 S =>
 uCmp (fun a b => ltN b a) .gtr v0 (.n 4) S fun v1 S =>
 κ a c d e f g h i j k l m o v1 q r s t w x y S
def u10_5 := k21 fun a c d e f g h i j k l m o p q r s t w x y => p
def u10_6 (C : CU) := m21 fun a c d e f g h i j k l m o p q r s t w x y S κ =>
 κ a (.t true) d e f g h i j k l m o p q r s t w x y S
def u10_7 (C : CU) := m21 fun a c d e f g h i j k l m o p q r s t w x y S κ =>
 uLitF 9 1 [(.s [])] 4 [(0, 1, (.s [97])), (1, 1, (.s [98, 46, 67])), (2, 1, (.s [120, 95, 49])), (3, 1, (.s [100, 46, 101, 46, 102]))] S fun v0 S =>
 κ a c v0 e f g h i j k l m o p q r s t w x y S
def u10_8 (C : CU) := m21 fun a c d e f g h i j k l m o p q r s t w x y S κ =>
 κ a c d (.s [105, 56]) f g h i j k l m o p q r s t w x y S
def u10_9 (C : CU) := m21 fun a c d e f g h i j k l m o p q r s t w x y S κ =>
 κ a c d e .nl g h i j k l m o p q r s t w x y S
def u10_10 (C : CU) := m21 fun a c d e f g h i j k l m o p q r s t w x y S κ =>
 κ a c d e f (.n 0) h i j k l m o p q r s t w x y S
def u10_11 (C : CU) := m21 fun a c d e f g h i j k l m o p q r s t w x y S κ =>
 uLen false a S fun v0 S =>
 uCmp ltN .lss g v0 S fun v1 S =>
 κ a c d e f g h i j k l m o p v1 r s t w x y S
def u10_12 := k21 fun a c d e f g h i j k l m o p q r s t w x y => q
def u10_13 (C : CU) := m21 fun a c d e f g h i j k l m o p q r s t w x y S κ =>
 uIad 1 a g S fun v0 S =>
 uLd none v0 S fun v1 S =>
 uQuo false .rem v1 (.b 4) S fun v2 S =>
 uIad 1 d v2 S fun v3 S =>
 uLd none v3 S fun v4 S =>
 κ a c d e f g v4 i j k l m o p q r s t w x y S
def u10_14 (C : CU) := m21 fun a c d e f g h i j k l m o p q r s t w x y S κ =>
 uIad 1 a g S fun v0 S =>
 uLd none v0 S fun v1 S =>
 uQuo true .quo v1 (.b 4) S fun v2 S =>
 uQuo false .rem v2 (.b 3) S fun v3 S =>
 κ a c d e f g h i j k l m o p q v3 s t w x y S
def u10_15 (C : CU) := m21 fun a c d e f g h i j k l m o p q r s t w x y S κ =>
 uEq false .eql r (.b 0) S fun v0 S =>
 κ a c d e f g h i j k l m o p q r v0 t w x y S
def u10_16 := k21 fun a c d e f g h i j k l m o p q r s t w x y => s
def u10_17 (C : CU) := m21 fun a c d e f g h i j k l m o p q r s t w x y S κ =>
 uAdd (.s [109, 97, 112, 60]) h S fun v0 S =>
 uAdd v0 (.s [44]) S fun v1 S =>
 uAdd v1 e S fun v2 S =>
 uAdd v2 (.s [62]) S fun v3 S =>
 κ a c d v3 f g h i j k l m o p q r s t w x y S
def u10_18 (C : CU) := m21 fun a c d e f g h i j k l m o p q r s t w x y S κ =>
 uLitF 9 1 [(.s [])] 1 [(0, 1, h)] S fun v0 S =>
 uApp 9 1 16 v0 f S fun v1 S =>
 κ a c d e v1 g h i j k l m o p q r s t w x y S
def u10_19 (C : CU) := m21 fun a c d e f g h i j k l m o p q r s t w x y S κ =>
 uEq false .eql r (.b 1) S fun v0 S =>
 κ a c d e f g h i j k l m o p q r s v0 w x y S
def u10_20 := k21 fun a c d e f g h i j k l m o p q r s t w x y => t
def u10_21 (C : CU) := m21 fun a c d e f g h i j k l m o p q r s t w x y S κ =>
 uAdd (.s [109, 97, 112, 60]) e S fun v0 S =>
 uAdd v0 (.s [44]) S fun v1 S =>
 uAdd v1 h S fun v2 S =>
 uAdd v2 (.s [62]) S fun v3 S =>
 κ a c d v3 f g h i j k l m o p q r s t w x y S
def u10_22 (C : CU) := m21 fun a c d e f g h i j k l m o p q r s t w x y S κ =>
 uLitF 9 1 [(.s [])] 1 [(0, 1, h)] S fun v0 S =>
 uApp 9 1 16 f v0 S fun v1 S =>
 κ a c d e v1 g h i j k l m o p q r s t w x y S
def u10_23 (C : CU) := m21 fun a c d e f g h i j k l m o p q r s t w x y S κ =>
 uAdd (.s [108, 105, 115, 116, 60]) e S fun v0 S =>
 uAdd v0 (.s [62]) S fun v1 S =>
 κ a c d v1 f g h i j k l m o p q r s t w x y S
def u10_24 (C : CU) := m21 fun a c d e f g h i j k l m o p q r s t w x y S κ =>
 uAdd g (.n 1) S fun v0 S =>
 κ a c d e f v0 h i j k l m o p q r s t w x y S
def u10_25 (C : CU) (n : Nat) : CdU W21 := seqU (seqU (u10_11 C) (condU u10_12 (skipU) (exitU 0))) (seqU (blockU 1 (seqU (u10_13 C) (seqU (u10_14 C) (blockU 2 (seqU (u10_15 C) (condU u10_16 (seqU (u10_17 C) (u10_18 C)) (seqU (u10_19 C) (condU u10_20 (seqU (u10_21 C) (u10_22 C)) (u10_23 C))))))))) (u10_24 C))
def u10_26 (C : CU) := m21 fun a c d e f g h i j k l m o p q r s t w x y S κ =>
 uCall C 23 [e] S fun v0 S =>
 κ a c d e f g h v0 j k l m o p q r s t w x y S
def u10_27 (C : CU) := m21 fun a c d e f g h i j k l m o p q r s t w x y S κ =>
 uLen false i S fun v0 S =>
 uLen false f S fun v1 S =>
 uEq true .neq v0 v1 S fun v2 S =>
 κ a c d e f g h i j k l m o p q r s t v2 x y S
def u10_28 := k21 fun a c d e f g h i j k l m o p q r s t w x y => w
def u10_29 (C : CU) := m21 fun a c d e f g h i j k l m o p q r s t w x y S κ =>
 κ a (.t false) d e f g h i j k l m o p q r s t w x y S
def u10_30 (C : CU) := m21 fun a c d e f g h i j k l m o p q r s t w x y S κ =>
 κ a c d e f g h i (.n 0) k l m o p q r s t w x y S
def u10_31 (C : CU) := m21 fun a c d e f g h i j k l m o p q r s t w x y S κ =>
 uLen false f S fun v0 S =>
 uCmp ltN .lss j v0 S fun v1 S =>
 κ a c d e f g h i j k l m o p q r s t w v1 y S
def u10_32 := k21 fun a c d e f g h i j k l m o p q r s t w x y => x
def u10_33 (C : CU) := m21 fun a c d e f g h i j k l m o p q r s t w x y S κ =>
 uIad 1 i j S fun v0 S =>
 uLd none v0 S fun v1 S =>
 uCall C 21 [v1] S fun v2 S =>
 uExt 0 v2 S fun v3 S =>
 uExt 1 v2 S fun v4 S =>
 uExt 2 v2 S fun v5 S =>
 uExt 3 v2 S fun v6 S =>
 uExt 4 v2 S fun v7 S =>
 κ a c d e f g h i j v3 v4 v7 o p q r s t w x y S
def u10_34 (C : CU) := m21 fun a c d e f g h i j k l m o p q r s t w x y S κ =>
 uIad 1 i j S fun v0 S =>
 uLd none v0 S fun v1 S =>
 uIad 1 f j S fun v2 S =>
 uLd none v2 S fun v3 S =>
 uEq true .neq v1 v3 S fun v4 S =>
 eT v4 fun b => cn b
 (κ a c d e f g h i j k l m o p q r s t w x (.t true) S)
 (uEq true .neq k (.n 0) S fun v5 S =>
 eT v5 fun b => cn b
 (κ a c d e f g h i j k l m o p q r s t w x (.t true) S)
 (uIad 1 f j S fun v6 S =>
 uLd none v6 S fun v7 S =>
 uEq true .neq l v7 S fun v8 S =>
 eT v8 fun b => cn b
 (κ a c d e f g h i j k l m o p q r s t w x (.t true) S)
 (uEq true .neq m (.n 0) S fun v9 S =>
 κ a c d e f g h i j k l m o p q r s t w x v9 S)))
def u10_35 := k21 fun a c d e f g h i j k l m o p q r s t w x y => y
def u10_36 (C : CU) := m21 fun a c d e f g h i j k l m o p q r s t w x y S κ =>
 κ a (.t false) d e f g h i j k l m o p q r s t w x y S
def u10_37 (C : CU) := m21 fun a c d e f g h i j k l m o p q r s t w x y S κ =>
 uAdd j (.n 1) S fun v0 S =>
 κ a c d e f g h i v0 k l m o p q r s t w x y S
def u10_38 (C : CU) (n : Nat) : CdU W21 := seqU (seqU (u10_31 C) (condU u10_32 (skipU) (exitU 3))) (seqU (blockU 4 (seqU (u10_33 C) (seqU (u10_34 C) (condU u10_35 (seqU (u10_36 C) (retU)) (skipU))))) (u10_37 C))
def u10_39 (C : CU) := m21 fun a c d e f g h i j k l m o p q r s t w x y S κ =>
 κ a (.t true) d e f g h i j k l m o p q r s t w x y S
def u10r (v : W21) (S : FAW) : RU := W21.rec (motive := fun _ => RU) (fun a c d e f g h i j k l m o p q r s t w x y => .ok c S) v
def u10b (C : CU) (n : Nat) : CdU W21 := seqU (u10_0 C) (seqU (seqU (u10_1 C) (condU u10_2 (seqU (u10_3 C) (retU)) (skipU))) (seqU (seqU (u10_4 C) (condU u10_5 (seqU (u10_6 C) (retU)) (skipU))) (seqU (u10_7 C) (seqU (u10_8 C) (seqU (u10_9 C) (seqU (seqU (u10_10 C) (blockU 0 (loopU n (u10_25 C n)))) (seqU (u10_26 C) (seqU (seqU (u10_27 C) (condU u10_28 (seqU (u10_29 C) (retU)) (skipU))) (seqU (seqU (u10_30 C) (blockU 3 (loopU n (u10_38 C n)))) (seqU (u10_39 C) (retU)))))))))))
def u10 : Fu := fun C n args S => u10b C n ((fu21 0 2 3 4 5 6 7 8 9 10 11 14 16 19 24 40 44 56 74 78 116).ent (argU args)) S fun o v S => exU o (u10r v S) (fun _ => .no) (u10r v S)
/-! assayer/assayerlaw6.begun -/
def u20_0 (C : CU) := m6 fun a c d e f g S κ =>
 κ (.t false) c d e f g S
def u20_1 (C : CU) := m6 fun a c d e f g S κ =>
 uCall C 21 [(.s [109, 97, 112, 60, 105, 56, 44, 97, 46, 66, 62])] S fun v0 S =>
 uExt 0 v0 S fun v1 S =>
 uExt 1 v0 S fun v2 S =>
 uExt 2 v0 S fun v3 S =>
 uExt 3 v0 S fun v4 S =>
 uExt 4 v0 S fun v5 S =>
 κ a v1 v3 v4 v5 g S
def u20_2 (C : CU) := m6 fun a c d e f g S κ =>
 uCall C 21 [(.s [108, 105, 115, 116, 60])] S fun v0 S =>
 uExt 0 v0 S fun v1 S =>
 uExt 1 v0 S fun v2 S =>
 uExt 2 v0 S fun v3 S =>
 uExt 3 v0 S fun v4 S =>
 uExt 4 v0 S fun v5 S =>
 κ a c d e f v5 S
def u20_3 (C : CU) := m6 fun a c d e f g S κ =>
 uEq false .eql c (.n 13) S fun v0 S =>
 eT v0 fun b => cn b
 (uEq false .eql d (.s [105, 56]) S fun v1 S =>
 eT v1 fun b => cn b
 (uEq false .eql e (.s [97, 46, 66]) S fun v2 S =>
 eT v2 fun b => cn b
 (uEq false .eql f (.n 0) S fun v3 S =>
 eT v3 fun b => cn b
 (uEq false .eql g (.n 2) S fun v4 S =>
 eT v4 fun b => cn b
 (uCall C 30 [c, (.s []), d, e] S fun v5 S =>
 uEq false .eql v5 (.s [109, 97, 112, 60, 105, 56, 44, 97, 46, 66, 62]) S fun v6 S =>
 eT v6 fun b => cn b
 (uCall C 25 [(.s [120])] S fun v7 S =>
 eT v7 fun b => cn b
 (uCall C 26 [(.s [108, 105, 115, 116, 60, 105, 56, 62])] S fun v8 S =>
 uEq false .eql v8 (.n 1) S fun v9 S =>
 eT v9 fun b => cn b
 (uCall C 28 [(.n 17)] S fun v10 S =>
 uEq false .eql v10 (.n 8) S fun v11 S =>
 eT v11 fun b => cn b
 (uCall C 23 [(.s [97])] S fun v12 S =>
 uLen false v12 S fun v13 S =>
 uEq false .eql v13 (.n 1) S fun v14 S =>
 κ v14 c d e f g S)
 (κ (.t false) c d e f g S))
 (κ (.t false) c d e f g S))
 (κ (.t false) c d e f g S))
 (κ (.t false) c d e f g S))
 (κ (.t false) c d e f g S))
 (κ (.t false) c d e f g S))
 (κ (.t false) c d e f g S))
 (κ (.t false) c d e f g S))
 (κ (.t false) c d e f g S)
def u20r (v : W6) (S : FAW) : RU := W6.rec (motive := fun _ => RU) (fun a c d e f g => .ok a S) v
def u20b (C : CU) (n : Nat) : CdU W6 := seqU (u20_0 C) (seqU (u20_1 C) (seqU (u20_2 C) (seqU (u20_3 C) (retU))))
def u20 : Fu := fun C n args S => u20b C n ((fu6 0 1 3 4 5 10).ent (argU args)) S fun o v S => exU o (u20r v S) (fun _ => .no) (u20r v S)
/-! assayer/kind.Head -/
def u21_0 (C : CU) := m13 fun a c d e f g h i j k l m o S κ =>
 κ a (.n 0) (.s []) (.s []) (.s []) (.n 0) h i j k l m o S
def u21_1 (C : CU) := m13 fun a c d e f g h i j k l m o S κ =>
 uCall C 67 [a] S fun v0 S =>
 uExt 0 v0 S fun v1 S =>
 uExt 1 v0 S fun v2 S =>
 uExt 2 v0 S fun v3 S =>
 κ a v2 d e f g v1 v3 j k l m o S
def u21_2 (C : CU) := m13 fun a c d e f g h i j k l m o S κ =>
 uGet 2 h S fun v2 S =>
 uEq true .neq v2 (.n 0) S fun v3 S =>
 κ a c d e f g h i j v3 l m o S
def u21_3 := k13 fun a c d e f g h i j k l m o => k
def u21_4 (C : CU) := m13 fun a c d e f g h i j k l m o S κ =>
 uGet 2 h S fun v2 S =>
 κ a (.n 0) (.s []) (.s []) (.s []) v2 h i j k l m o S
def u21_5 (C : CU) := m13 fun a c d e f g h i j k l m o S κ =>
 uEq false .eql c (.n 0) S fun v0 S =>
 κ a c d e f g h i j k v0 m o S
def u21_6 := k13 fun a c d e f g h i j k l m o => l
def u21_7 (C : CU) := m13 fun a c d e f g h i j k l m o S κ =>
 κ a (.n 0) a (.s []) (.s []) (.n 0) h i j k l m o S
def u21_8 (C : CU) := m13 fun a c d e f g h i j k l m o S κ =>
 uLen false i S fun v0 S =>
 uEq false .eql v0 (.n 0) S fun v1 S =>
 κ a c d e f g h i j k l v1 o S
def u21_9 := k13 fun a c d e f g h i j k l m o => m
def u21_10 (C : CU) := m13 fun a c d e f g h i j k l m o S κ =>
 κ a c (.s []) (.s []) (.s []) (.n 0) h i j k l m o S
def u21_11 (C : CU) := m13 fun a c d e f g h i j k l m o S κ =>
 uCall C 68 [a, (.b 60)] S fun v0 S =>
 uAdd v0 (.n 1) S fun v1 S =>
 κ a c d e f g h i v1 k l m o S
def u21_12 (C : CU) := m13 fun a c d e f g h i j k l m o S κ =>
 uIad 1 i (.n 0) S fun v0 S =>
 uLd none v0 S fun v1 S =>
 uSlS a (some j) (some v1) S fun v2 S =>
 κ a c d v2 f g h i j k l m o S
def u21_13 (C : CU) := m13 fun a c d e f g h i j k l m o S κ =>
 uLen false i S fun v0 S =>
 uEq false .eql v0 (.n 2) S fun v1 S =>
 κ a c d e f g h i j k l m v1 S
def u21_14 := k13 fun a c d e f g h i j k l m o => o
def u21_15 (C : CU) := m13 fun a c d e f g h i j k l m o S κ =>
 uIad 1 i (.n 0) S fun v0 S =>
 uLd none v0 S fun v1 S =>
 uAdd v1 (.n 1) S fun v2 S =>
 uIad 1 i (.n 1) S fun v3 S =>
 uLd none v3 S fun v4 S =>
 uSlS a (some v2) (some v4) S fun v5 S =>
 κ a c d e v5 g h i j k l m o S
def u21_16 (C : CU) := m13 fun a c d e f g h i j k l m o S κ =>
 κ a c (.s []) e f (.n 0) h i j k l m o S
def u21r (v : W13) (S : FAW) : RU := W13.rec (motive := fun _ => RU) (fun a c d e f g h i j k l m o => .ok (.u [c, d, e, f, g]) S) v
def u21b (C : CU) (n : Nat) : CdU W13 := seqU (u21_0 C) (seqU (u21_1 C) (seqU (blockU 0 (seqU (u21_2 C) (condU u21_3 (seqU (u21_4 C) (retU)) (seqU (u21_5 C) (condU u21_6 (seqU (u21_7 C) (retU)) (seqU (u21_8 C) (condU u21_9 (seqU (u21_10 C) (retU)) (skipU)))))))) (seqU (u21_11 C) (seqU (u21_12 C) (seqU (seqU (u21_13 C) (condU u21_14 (u21_15 C) (skipU))) (seqU (u21_16 C) (retU)))))))
def u21 : Fu := fun C n args S => u21b C n ((fu13 0 2 3 4 5 6 7 8 9 16 26 30 46).ent (argU args)) S fun o v S => exU o (u21r v S) (fun _ => .no) (u21r v S)
/-! assayer/assayerref5.Head -/
def u22_0 (C : CU) := m7 fun a c d e f g h S κ =>
 uNewF 38 4 [(.n 0), (.s []), (.s []), (.s [])] S fun v0 S =>
 κ a v0 (.n 0) e f g h S
def u22_1 (C : CU) := m7 fun a c d e f g h S κ =>
 uBuildF [(.s []), (.n 0), (.n 0)] [(0, 1, a)] S fun v0 S =>
 uBox 99 3 v0 S fun v1 S =>
 κ a c d v1 f g h S
def u22_2 (C : CU) := m7 fun a c d e f g h S κ =>
 uCall C 69 [e, (.n 1)] S fun v0 S =>
 uNewF 38 4 [(.n 0), (.s []), (.s []), (.s [])] S fun v1 S =>
 uSt 4 v1 v0 S fun v2 S =>
 κ a c d e v1 g h S
def u22_3 (C : CU) := m7 fun a c d e f g h S κ =>
 uGet 2 e S fun v2 S =>
 uEq false .eql v2 (.n 0) S fun v3 S =>
 eT v3 fun b => cn b
 (uGet 1 e S fun v6 S =>
 uLen true a S fun v7 S =>
 uCmp ltN .lss v6 v7 S fun v8 S =>
 κ a c d e f v8 h S)
 (κ a c d e f (.t false) h S)
def u22_4 := k7 fun a c d e f g h => g
def u22_5 (C : CU) := m7 fun a c d e f g h S κ =>
 uNilc e S fun v0 S =>
 uFad 2 v0 S fun v1 S =>
 uSt 1 v1 (.n 2) S fun v2 S =>
 κ a c d e f g h S
def u22_6 (C : CU) := m7 fun a c d e f g h S κ =>
 uGet 2 e S fun v2 S =>
 uEq true .neq v2 (.n 0) S fun v3 S =>
 κ a c d e f g v3 S
def u22_7 := k7 fun a c d e f g h => h
def u22_8 (C : CU) := m7 fun a c d e f g h S κ =>
 uBuildF [(.n 0), (.s []), (.s []), (.s [])] [] S fun v0 S =>
 uNilc e S fun v1 S =>
 uFad 2 v1 S fun v2 S =>
 uLd none v2 S fun v3 S =>
 uSt 4 c v0 S fun v4 S =>
 uLd none v2 S fun u _ => veqU u v3
 (κ a c v3 e f g h S)
def u22_9 (C : CU) := m7 fun a c d e f g h S κ =>
 uLd (some 4) f S fun v0 S =>
 uSt 4 c v0 S fun v1 S =>
 κ a c (.n 0) e f g h S
def u22r (v : W7) (S : FAW) : RU := W7.rec (motive := fun _ => RU) (fun a c d e f g h => uLd (some 4) c S fun r2 _ => .ok (.u [r2, d]) S) v
def u22b (C : CU) (n : Nat) : CdU W7 := seqU (u22_0 C) (seqU (u22_1 C) (seqU (u22_2 C) (seqU (seqU (u22_3 C) (condU u22_4 (u22_5 C) (skipU))) (seqU (seqU (u22_6 C) (condU u22_7 (seqU (u22_8 C) (retU)) (skipU))) (seqU (u22_9 C) (retU))))))
def u22 : Fu := fun C n args S => u22b C n ((fu7 0 2 3 4 5 24 32).ent (argU args)) S fun o v S => exU o (u22r v S) (fun _ => .no) (u22r v S)
/-! assayer/kind.Names -/
def u23_0 (C : CU) := m4 fun a c d e S κ =>
 κ a .nl d e S
def u23_1 (C : CU) := m4 fun a c d e S κ =>
 uCall C 67 [a] S fun v0 S =>
 uExt 0 v0 S fun v1 S =>
 uExt 1 v0 S fun v2 S =>
 uExt 2 v0 S fun v3 S =>
 κ a c v1 e S
def u23_2 (C : CU) := m4 fun a c d e S κ =>
 uGet 2 d S fun v2 S =>
 uEq true .neq v2 (.n 0) S fun v3 S =>
 κ a c d v3 S
def u23_3 := k4 fun a c d e => e
def u23_4 (C : CU) := m4 fun a c d e S κ =>
 κ a .nl d e S
def u23_5 (C : CU) := m4 fun a c d e S κ =>
 uGet 3 d S fun v2 S =>
 κ a v2 d e S
def u23r (v : W4) (S : FAW) : RU := W4.rec (motive := fun _ => RU) (fun a c d e => .ok c S) v
def u23b (C : CU) (n : Nat) : CdU W4 := seqU (u23_0 C) (seqU (u23_1 C) (seqU (seqU (u23_2 C) (condU u23_3 (seqU (u23_4 C) (retU)) (skipU))) (seqU (u23_5 C) (retU))))
def u23 : Fu := fun C n args S => u23b C n ((fu4 0 2 3 16).ent (argU args)) S fun o v S => exU o (u23r v S) (fun _ => .no) (u23r v S)
/-! assayer/assayerref5.Names -/
def u24_0 (C : CU) := m8 fun a c d e f g h i S κ =>
 κ a .nl d e f g h i S
def u24_1 (C : CU) := m8 fun a c d e f g h i S κ =>
 uCall C 22 [a] S fun v0 S =>
 uExt 0 v0 S fun v1 S =>
 uExt 1 v0 S fun v2 S =>
 uNewF 38 4 [(.n 0), (.s []), (.s []), (.s [])] S fun v3 S =>
 uSt 4 v3 v1 S fun v4 S =>
 κ a c v3 v2 f g h i S
def u24_2 (C : CU) := m8 fun a c d e f g h i S κ =>
 uEq true .neq e (.n 0) S fun v0 S =>
 κ a c d e v0 g h i S
def u24_3 := k8 fun a c d e f g h i => f
def u24_4 (C : CU) := m8 fun a c d e f g h i S κ =>
 κ a .nl d e f g h i S
def u24_5 (C : CU) := m8 fun a c d e f g h i S κ =>
 uFad 0 d S fun v0 S =>
 uLd none v0 S fun v1 S =>
 uEq false .eql v1 (.n 0) S fun v2 S =>
 κ a c d e f v2 h i S
def u24_6 := k8 fun a c d e f g h i => g
def u24_7 (C : CU) := m8 fun a c d e f g h i S κ =>
 uFad 1 d S fun v0 S =>
 uLd none v0 S fun v1 S =>
 uLitF 9 1 [(.s [])] 1 [(0, 1, v1)] S fun v2 S =>
 κ a v2 d e f g h i S
def u24_8 (C : CU) := m8 fun a c d e f g h i S κ =>
 uFad 0 d S fun v0 S =>
 uLd none v0 S fun v1 S =>
 uEq false .eql v1 (.n 13) S fun v2 S =>
 κ a c d e f g v2 i S
def u24_9 := k8 fun a c d e f g h i => h
def u24_10 (C : CU) := m8 fun a c d e f g h i S κ =>
 uFad 2 d S fun v0 S =>
 uLd none v0 S fun v1 S =>
 uFad 3 d S fun v2 S =>
 uLd none v2 S fun v3 S =>
 uCall C 24 [v1] S fun v4 S =>
 uLd none v2 S fun u _ => veqU u v3
 (uCall C 24 [v3] S fun v5 S =>
 uApp 9 1 16 v4 v5 S fun v6 S =>
 κ a v6 d e f g h i S)
def u24_11 (C : CU) := m8 fun a c d e f g h i S κ =>
 uFad 0 d S fun v0 S =>
 uLd none v0 S fun v1 S =>
 uEq false .eql v1 (.n 15) S fun v2 S =>
 eT v2 fun b => cn b
 (κ a c d e f g h (.t true) S)
 (uFad 0 d S fun v3 S =>
 uLd none v3 S fun v4 S =>
 uEq false .eql v4 (.n 14) S fun v5 S =>
 κ a c d e f g h v5 S)
def u24_12 := k8 fun a c d e f g h i => i
def u24_13 (C : CU) := m8 fun a c d e f g h i S κ =>
 uFad 2 d S fun v0 S =>
 uLd none v0 S fun v1 S =>
 uCall C 24 [v1] S fun v2 S =>
 κ a v2 d e f g h i S
def u24_14 (C : CU) := m8 fun a c d e f g h i S κ =>
 κ a .nl d e f g h i S
def u24r (v : W8) (S : FAW) : RU := W8.rec (motive := fun _ => RU) (fun a c d e f g h i => .ok c S) v
def u24b (C : CU) (n : Nat) : CdU W8 := seqU (u24_0 C) (seqU (u24_1 C) (seqU (blockU 0 (seqU (u24_2 C) (condU u24_3 (seqU (u24_4 C) (retU)) (seqU (u24_5 C) (condU u24_6 (seqU (u24_7 C) (retU)) (seqU (u24_8 C) (condU u24_9 (seqU (u24_10 C) (retU)) (seqU (u24_11 C) (condU u24_12 (seqU (u24_13 C) (retU)) (skipU)))))))))) (seqU (u24_14 C) (retU))))
def u24 : Fu := fun C n args S => u24b C n ((fu8 0 2 3 4 10 13 20 31).ent (argU args)) S fun o v S => exU o (u24r v S) (fun _ => .no) (u24r v S)
/-! assayer/kind.May -/
def u25_0 (C : CU) := m3 fun a c d S κ =>
 κ a (.t false) d S
def u25_1 (C : CU) := m3 fun a c d S κ =>
 uCall C 67 [a] S fun v0 S =>
 uExt 0 v0 S fun v1 S =>
 uExt 1 v0 S fun v2 S =>
 uExt 2 v0 S fun v3 S =>
 κ a c v1 S
def u25_2 (C : CU) := m3 fun a c d S κ =>
 uGet 2 d S fun v2 S =>
 uEq false .eql v2 (.n 0) S fun v3 S =>
 κ a v3 d S
def u25r (v : W3) (S : FAW) : RU := W3.rec (motive := fun _ => RU) (fun a c d => .ok c S) v
def u25b (C : CU) (n : Nat) : CdU W3 := seqU (u25_0 C) (seqU (u25_1 C) (seqU (u25_2 C) (retU)))
def u25 : Fu := fun C n args S => u25b C n ((fu3 0 2 3).ent (argU args)) S fun o v S => exU o (u25r v S) (fun _ => .no) (u25r v S)
/-! assayer/kind.Depth -/
def u26_0 (C : CU) := m4 fun a c d e S κ =>
 κ a (.n 0) d e S
def u26_1 (C : CU) := m4 fun a c d e S κ =>
 uCall C 67 [a] S fun v0 S =>
 uExt 0 v0 S fun v1 S =>
 uExt 1 v0 S fun v2 S =>
 uExt 2 v0 S fun v3 S =>
 κ a c v1 e S
def u26_2 (C : CU) := m4 fun a c d e S κ =>
 uGet 2 d S fun v2 S =>
 uEq true .neq v2 (.n 0) S fun v3 S =>
 κ a c d v3 S
def u26_3 := k4 fun a c d e => e
def u26_4 (C : CU) := m4 fun a c d e S κ =>
 κ a (.n 0) d e S
def u26_5 (C : CU) := m4 fun a c d e S κ =>
 uGet 4 d S fun v2 S =>
 κ a v2 d e S
def u26r (v : W4) (S : FAW) : RU := W4.rec (motive := fun _ => RU) (fun a c d e => .ok c S) v
def u26b (C : CU) (n : Nat) : CdU W4 := seqU (u26_0 C) (seqU (u26_1 C) (seqU (seqU (u26_2 C) (condU u26_3 (seqU (u26_4 C) (retU)) (skipU))) (seqU (u26_5 C) (retU))))
def u26 : Fu := fun C n args S => u26b C n ((fu4 0 2 3 16).ent (argU args)) S fun o v S => exU o (u26r v S) (fun _ => .no) (u26r v S)
/-! assayer/assayerref5.Depth -/
def u27_0 (C : CU) := m7 fun a c d e f g h S κ =>
 κ a (.n 0) d e f g h S
def u27_1 (C : CU) := m7 fun a c d e f g h S κ =>
 uCall C 22 [a] S fun v0 S =>
 uExt 0 v0 S fun v1 S =>
 uExt 1 v0 S fun v2 S =>
 uNewF 38 4 [(.n 0), (.s []), (.s []), (.s [])] S fun v3 S =>
 uSt 4 v3 v1 S fun v4 S =>
 κ a c v3 v2 f g h S
def u27_2 (C : CU) := m7 fun a c d e f g h S κ =>
 uEq true .neq e (.n 0) S fun v0 S =>
 eT v0 fun b => cn b
 (κ a c d e f (.t true) h S)
 (uFad 0 d S fun v1 S =>
 uLd none v1 S fun v2 S =>
 uEq true .neq v2 (.n 15) S fun v3 S =>
 eT v3 fun b => cn b
 (uFad 0 d S fun v4 S =>
 uLd none v4 S fun v5 S =>
 uEq true .neq v5 (.n 14) S fun v6 S =>
 eT v6 fun b => cn b
 (uFad 0 d S fun v7 S =>
 uLd none v7 S fun v8 S =>
 uEq true .neq v8 (.n 13) S fun v9 S =>
 κ a c d e f v9 h S)
 (κ a c d e f (.t false) h S))
 (κ a c d e f (.t false) h S))
def u27_3 := k7 fun a c d e f g h => g
def u27_4 (C : CU) := m7 fun a c d e f g h S κ =>
 κ a (.n 0) d e f g h S
def u27_5 (C : CU) := m7 fun a c d e f g h S κ =>
 uFad 2 d S fun v0 S =>
 uLd none v0 S fun v1 S =>
 uCall C 27 [v1] S fun v2 S =>
 κ a c d e v2 g h S
def u27_6 (C : CU) := m7 fun a c d e f g h S κ =>
 uFad 0 d S fun v0 S =>
 uLd none v0 S fun v1 S =>
 uEq false .eql v1 (.n 13) S fun v2 S =>
 κ a c d e f g v2 S
def u27_7 := k7 fun a c d e f g h => h
def u27_8 (C : CU) := m7 fun a c d e f g h S κ =>
 uFad 3 d S fun v0 S =>
 uLd none v0 S fun v1 S =>
 uCall C 27 [v1] S fun v2 S =>
 uMM true [f, v2] S fun v3 S =>
 κ a c d e v3 g h S
def u27_9 (C : CU) := m7 fun a c d e f g h S κ =>
 uAdd f (.n 1) S fun v0 S =>
 κ a v0 d e f g h S
def u27r (v : W7) (S : FAW) : RU := W7.rec (motive := fun _ => RU) (fun a c d e f g h => .ok c S) v
def u27b (C : CU) (n : Nat) : CdU W7 := seqU (u27_0 C) (seqU (u27_1 C) (seqU (seqU (u27_2 C) (condU u27_3 (seqU (u27_4 C) (retU)) (skipU))) (seqU (u27_5 C) (seqU (seqU (u27_6 C) (condU u27_7 (u27_8 C) (skipU))) (seqU (u27_9 C) (retU))))))
def u27 : Fu := fun C n args S => u27b C n ((fu7 0 2 3 4 5 27 33).ent (argU args)) S fun o v S => exU o (u27r v S) (fun _ => .no) (u27r v S)
/-! assayer/kind.Wire -/
def u28_0 (C : CU) := m6 fun a c d e f g S κ =>
 κ a (.n 0) d e f g S
def u28_1 (C : CU) := m6 fun a c d e f g S κ =>
 κ a c a e f g S
def u28_2 (C : CU) := m6 fun a c d e f g S κ =>
 uEq false .eql d (.n 16) S fun v0 S =>
 κ a c d v0 f g S
def u28_3 := k6 fun a c d e f g => e
def u28_4 (C : CU) := m6 fun a c d e f g S κ =>
 κ a (.n 11) d e f g S
def u28_5 (C : CU) := m6 fun a c d e f g S κ =>
 uEq false .eql d (.n 17) S fun v0 S =>
 κ a c d e v0 g S
def u28_6 := k6 fun a c d e f g => f
def u28_7 (C : CU) := m6 fun a c d e f g S κ =>
 κ a (.n 8) d e f g S
def u28_8 (C : CU) := m6 fun a c d e f g S κ =>
 uEq false .eql d (.n 2) S fun v0 S =>
 κ a c d e f v0 S
def u28_9 := k6 fun a c d e f g => g
def u28_10 (C : CU) := m6 fun a c d e f g S κ =>
 uEq false .eql d (.n 3) S fun v0 S =>
 κ a c d e f v0 S
def u28_11 := k6 fun a c d e f g => g
def u28_12 (C : CU) := m6 fun a c d e f g S κ =>
 uEq false .eql d (.n 4) S fun v0 S =>
 κ a c d e f v0 S
def u28_13 := k6 fun a c d e f g => g
def u28_14 (C : CU) := m6 fun a c d e f g S κ =>
 uEq false .eql d (.n 6) S fun v0 S =>
 κ a c d e f v0 S
def u28_15 := k6 fun a c d e f g => g
def u28_16 (C : CU) := m6 fun a c d e f g S κ =>
 uEq false .eql d (.n 8) S fun v0 S =>
 κ a c d e f v0 S
def u28_17 := k6 fun a c d e f g => g
def u28_18 (C : CU) := m6 fun a c d e f g S κ =>
 uEq false .eql d (.n 10) S fun v0 S =>
 κ a c d e f v0 S
def u28_19 := k6 fun a c d e f g => g
def u28_20 (C : CU) := m6 fun a c d e f g S κ =>
 uEq false .eql d (.n 11) S fun v0 S =>
 κ a c d e f v0 S
def u28_21 := k6 fun a c d e f g => g
def u28_22 (C : CU) := m6 fun a c d e f g S κ =>
 uEq false .eql d (.n 12) S fun v0 S =>
 κ a c d e f v0 S
def u28_23 := k6 fun a c d e f g => g
def u28_24 (C : CU) := m6 fun a c d e f g S κ =>
 uEq false .eql d (.n 13) S fun v0 S =>
 κ a c d e f v0 S
def u28_25 := k6 fun a c d e f g => g
def u28_26 (C : CU) := m6 fun a c d e f g S κ =>
 uEq false .eql d (.n 14) S fun v0 S =>
 κ a c d e f v0 S
def u28_27 := k6 fun a c d e f g => g
def u28_28 (C : CU) := m6 fun a c d e f g S κ =>
 uEq false .eql d (.n 15) S fun v0 S =>
 κ a c d e f v0 S
def u28_29 := k6 fun a c d e f g => g
def u28_30 (C : CU) := m6 fun a c d e f g S κ =>
 κ a a d e f g S
def u28_31 (C : CU) := m6 fun a c d e f g S κ =>
 κ a (.n 0) d e f g S
def u28r (v : W6) (S : FAW) : RU := W6.rec (motive := fun _ => RU) (fun a c d e f g => .ok c S) v
def u28b (C : CU) (n : Nat) : CdU W6 := seqU (u28_0 C) (seqU (seqU (u28_1 C) (blockU 0 (seqU (u28_2 C) (condU u28_3 (seqU (u28_4 C) (retU)) (seqU (u28_5 C) (condU u28_6 (seqU (u28_7 C) (retU)) (seqU (seqU (u28_8 C) (condU u28_9 (skipU) (seqU (u28_10 C) (condU u28_11 (skipU) (seqU (u28_12 C) (condU u28_13 (skipU) (seqU (u28_14 C) (condU u28_15 (skipU) (seqU (u28_16 C) (condU u28_17 (skipU) (seqU (u28_18 C) (condU u28_19 (skipU) (seqU (u28_20 C) (condU u28_21 (skipU) (seqU (u28_22 C) (condU u28_23 (skipU) (seqU (u28_24 C) (condU u28_25 (skipU) (seqU (u28_26 C) (condU u28_27 (skipU) (u28_28 C))))))))))))))))))))) (condU u28_29 (seqU (u28_30 C) (retU)) (skipU))))))))) (seqU (u28_31 C) (retU)))
def u28 : Fu := fun C n args S => u28b C n ((fu6 0 2 3 4 6 8).ent (argU args)) S fun o v S => exU o (u28r v S) (fun _ => .no) (u28r v S)
/-! assayer/assayerref5.Wire -/
def u29_0 (C : CU) := m6 fun a c d e f g S κ =>
 κ a (.n 0) d e f g S
def u29_1 (C : CU) := m6 fun a c d e f g S κ =>
 κ a c a e f g S
def u29_2 (C : CU) := m6 fun a c d e f g S κ =>
 uEq false .eql d (.n 16) S fun v0 S =>
 κ a c d v0 f g S
def u29_3 := k6 fun a c d e f g => e
def u29_4 (C : CU) := m6 fun a c d e f g S κ =>
 κ a (.n 11) d e f g S
def u29_5 (C : CU) := m6 fun a c d e f g S κ =>
 uEq false .eql d (.n 17) S fun v0 S =>
 κ a c d e v0 g S
def u29_6 := k6 fun a c d e f g => f
def u29_7 (C : CU) := m6 fun a c d e f g S κ =>
 κ a (.n 8) d e f g S
def u29_8 (C : CU) := m6 fun a c d e f g S κ =>
 uEq false .eql d (.n 2) S fun v0 S =>
 κ a c d e f v0 S
def u29_9 := k6 fun a c d e f g => g
def u29_10 (C : CU) := m6 fun a c d e f g S κ =>
 uEq false .eql d (.n 3) S fun v0 S =>
 κ a c d e f v0 S
def u29_11 := k6 fun a c d e f g => g
def u29_12 (C : CU) := m6 fun a c d e f g S κ =>
 uEq false .eql d (.n 4) S fun v0 S =>
 κ a c d e f v0 S
def u29_13 := k6 fun a c d e f g => g
def u29_14 (C : CU) := m6 fun a c d e f g S κ =>
 uEq false .eql d (.n 6) S fun v0 S =>
 κ a c d e f v0 S
def u29_15 := k6 fun a c d e f g => g
def u29_16 (C : CU) := m6 fun a c d e f g S κ =>
 uEq false .eql d (.n 8) S fun v0 S =>
 κ a c d e f v0 S
def u29_17 := k6 fun a c d e f g => g
def u29_18 (C : CU) := m6 fun a c d e f g S κ =>
 uEq false .eql d (.n 10) S fun v0 S =>
 κ a c d e f v0 S
def u29_19 := k6 fun a c d e f g => g
def u29_20 (C : CU) := m6 fun a c d e f g S κ =>
 uEq false .eql d (.n 11) S fun v0 S =>
 κ a c d e f v0 S
def u29_21 := k6 fun a c d e f g => g
def u29_22 (C : CU) := m6 fun a c d e f g S κ =>
 uEq false .eql d (.n 12) S fun v0 S =>
 κ a c d e f v0 S
def u29_23 := k6 fun a c d e f g => g
def u29_24 (C : CU) := m6 fun a c d e f g S κ =>
 uEq false .eql d (.n 13) S fun v0 S =>
 κ a c d e f v0 S
def u29_25 := k6 fun a c d e f g => g
def u29_26 (C : CU) := m6 fun a c d e f g S κ =>
 uEq false .eql d (.n 14) S fun v0 S =>
 κ a c d e f v0 S
def u29_27 := k6 fun a c d e f g => g
def u29_28 (C : CU) := m6 fun a c d e f g S κ =>
 uEq false .eql d (.n 15) S fun v0 S =>
 κ a c d e f v0 S
def u29_29 := k6 fun a c d e f g => g
def u29_30 (C : CU) := m6 fun a c d e f g S κ =>
 κ a a d e f g S
def u29_31 (C : CU) := m6 fun a c d e f g S κ =>
 κ a (.n 0) d e f g S
def u29r (v : W6) (S : FAW) : RU := W6.rec (motive := fun _ => RU) (fun a c d e f g => .ok c S) v
def u29b (C : CU) (n : Nat) : CdU W6 := seqU (u29_0 C) (seqU (seqU (u29_1 C) (blockU 0 (seqU (u29_2 C) (condU u29_3 (seqU (u29_4 C) (retU)) (seqU (u29_5 C) (condU u29_6 (seqU (u29_7 C) (retU)) (seqU (seqU (u29_8 C) (condU u29_9 (skipU) (seqU (u29_10 C) (condU u29_11 (skipU) (seqU (u29_12 C) (condU u29_13 (skipU) (seqU (u29_14 C) (condU u29_15 (skipU) (seqU (u29_16 C) (condU u29_17 (skipU) (seqU (u29_18 C) (condU u29_19 (skipU) (seqU (u29_20 C) (condU u29_21 (skipU) (seqU (u29_22 C) (condU u29_23 (skipU) (seqU (u29_24 C) (condU u29_25 (skipU) (seqU (u29_26 C) (condU u29_27 (skipU) (u29_28 C))))))))))))))))))))) (condU u29_29 (seqU (u29_30 C) (retU)) (skipU))))))))) (seqU (u29_31 C) (retU)))
def u29 : Fu := fun C n args S => u29b C n ((fu6 0 2 3 4 6 8).ent (argU args)) S fun o v S => exU o (u29r v S) (fun _ => .no) (u29r v S)
/-! assayer/kind.Show -/
def u30_0 (C : CU) := m14 fun a c d e f g h i j k l m o p S κ =>
 uBox 3 1 a S fun v0 S =>
 κ a c d e v0 (.s []) h i j k l m o p S
def u30_1 (C : CU) := m14 fun a c d e f g h i j k l m o p S κ =>
 uLd none f S fun v0 S =>
 κ a c d e f g h i v0 k l m o p S
def u30_2 (C : CU) := m14 fun a c d e f g h i j k l m o p S κ =>
 uEq false .eql j (.n 0) S fun v0 S =>
 κ a c d e f g h i j v0 l m o p S
def u30_3 := k14 fun a c d e f g h i j k l m o p => k
def u30_4 (C : CU) := m14 fun a c d e f g h i j k l m o p S κ =>
 κ a c d e f c h i j k l m o p S
def u30_5 (C : CU) := m14 fun a c d e f g h i j k l m o p S κ =>
 uEq false .eql j (.n 15) S fun v0 S =>
 κ a c d e f g h i j k v0 m o p S
def u30_6 := k14 fun a c d e f g h i j k l m o p => l
def u30_7 (C : CU) := m14 fun a c d e f g h i j k l m o p S κ =>
 uAdd (.s [108, 105, 115, 116, 60]) d S fun v0 S =>
 uAdd v0 (.s [62]) S fun v1 S =>
 κ a c d e f v1 h i j k l m o p S
def u30_8 (C : CU) := m14 fun a c d e f g h i j k l m o p S κ =>
 uEq false .eql j (.n 14) S fun v0 S =>
 κ a c d e f g h i j k l v0 o p S
def u30_9 := k14 fun a c d e f g h i j k l m o p => m
def u30_10 (C : CU) := m14 fun a c d e f g h i j k l m o p S κ =>
 uAdd (.s [115, 101, 116, 60]) d S fun v0 S =>
 uAdd v0 (.s [62]) S fun v1 S =>
 κ a c d e f v1 h i j k l m o p S
def u30_11 (C : CU) := m14 fun a c d e f g h i j k l m o p S κ =>
 uEq false .eql j (.n 13) S fun v0 S =>
 κ a c d e f g h i j k l m v0 p S
def u30_12 := k14 fun a c d e f g h i j k l m o p => o
def u30_13 (C : CU) := m14 fun a c d e f g h i j k l m o p S κ =>
 uAdd (.s [109, 97, 112, 60]) d S fun v0 S =>
 uAdd v0 (.s [44]) S fun v1 S =>
 uAdd v1 e S fun v2 S =>
 uAdd v2 (.s [62]) S fun v3 S =>
 κ a c d e f v3 h i j k l m o p S
def u30_14 (C : CU) := m14 fun a c d e f g h i j k l m o p S κ =>
 uLitF 9 1 [(.s [])] 8 [(0, 1, (.s [98, 111, 111, 108])), (1, 1, (.s [105, 56])), (2, 1, (.s [105, 49, 54])), (3, 1, (.s [105, 51, 50])), (4, 1, (.s [105, 54, 52])), (5, 1, (.s [100, 111, 117, 98, 108, 101])), (6, 1, (.s [115, 116, 114, 105, 110, 103])), (7, 1, (.s [98, 105, 110, 97, 114, 121]))] S fun v0 S =>
 κ a c d e f g v0 i j k l m o p S
def u30_15 (C : CU) := m14 fun a c d e f g h i j k l m o p S κ =>
 uMkf 71 [] [f] S fun v0 S =>
 uCall C 70 [h, v0] S fun v1 S =>
 κ a c d e f g h v1 j k l m o p S
def u30_16 (C : CU) := m14 fun a c d e f g h i j k l m o p S κ =>
 uCmp ltN .lss i (.n 0) S fun v0 S =>
 κ a c d e f g h i j k l m o v0 S
def u30_17 := k14 fun a c d e f g h i j k l m o p => p
def u30_18 (C : CU) := m14 fun a c d e f g h i j k l m o p S κ =>
 κ a c d e f (.s []) h i j k l m o p S
def u30_19 (C : CU) := m14 fun a c d e f g h i j k l m o p S κ =>
 uIad 1 h i S fun v0 S =>
 uLd none v0 S fun v1 S =>
 κ a c d e f v1 h i j k l m o p S
def u30r (v : W14) (S : FAW) : RU := W14.rec (motive := fun _ => RU) (fun a c d e f g h i j k l m o p => .ok g S) v
def u30b (C : CU) (n : Nat) : CdU W14 := seqU (u30_0 C) (seqU (seqU (u30_1 C) (blockU 0 (seqU (u30_2 C) (condU u30_3 (seqU (u30_4 C) (retU)) (seqU (u30_5 C) (condU u30_6 (seqU (u30_7 C) (retU)) (seqU (u30_8 C) (condU u30_9 (seqU (u30_10 C) (retU)) (seqU (u30_11 C) (condU u30_12 (seqU (u30_13 C) (retU)) (skipU))))))))))) (seqU (u30_14 C) (seqU (u30_15 C) (seqU (seqU (u30_16 C) (condU u30_17 (seqU (u30_18 C) (retU)) (skipU))) (seqU (u30_19 C) (retU))))))
def u30 : Fu := fun C n args S => u30b C n ((fu14 0 1 2 3 4 8 9 10 11 12 15 20 25 38).ent (argU args)) S fun o v S => exU o (u30r v S) (fun _ => .no) (u30r v S)
/-! assayer/kind.read -/
def u67_0 (C : CU) := m4 fun a c d e S κ =>
 κ a .np (.n 0) .nl S
def u67_1 (C : CU) := m4 fun a c d e S κ =>
 uBuildF [(.s []), (.n 0), (.n 0), .nl, (.n 0)] [(0, 1, a)] S fun v0 S =>
 uBox 95 5 v0 S fun v1 S =>
 κ a v1 d e S
def u67_2 (C : CU) := m4 fun a c d e S κ =>
 uCall C 91 [c, (.n 0)] S fun v0 S =>
 uExt 0 v0 S fun v1 S =>
 uExt 1 v0 S fun v2 S =>
 κ a c v1 v2 S
def u67_3 (C : CU) := m4 fun a c d e S κ =>
 uGet 1 c S fun v2 S =>
 uLen true a S fun v3 S =>
 uCmp ltN .lss v2 v3 S fun v4 S =>
 uCall C 92 [c, v4, (.n 2)] S fun v5 S =>
 κ a c d e S
def u67_4 (C : CU) := m4 fun a c d e S κ =>
 κ a c d e S
def u67r (v : W4) (S : FAW) : RU := W4.rec (motive := fun _ => RU) (fun a c d e => .ok (.u [c, d, e]) S) v
def u67b (C : CU) (n : Nat) : CdU W4 := seqU (u67_0 C) (seqU (u67_1 C) (seqU (u67_2 C) (seqU (u67_3 C) (seqU (u67_4 C) (retU)))))
def u67 : Fu := fun C n args S => u67b C n ((fu4 0 2 3 4).ent (argU args)) S fun o v S => exU o (u67r v S) (fun _ => .no) (u67r v S)
/-! strings.IndexByte -/
def u68_0 (C : CU) := m3 fun a c d S κ =>
 κ a c (.n 0) S
def u68_1 (C : CU) := m3 fun a c d S κ =>
 uCall C 93 [a, c] S fun v0 S =>
 κ a c v0 S
def u68r (v : W3) (S : FAW) : RU := W3.rec (motive := fun _ => RU) (fun a c d => .ok d S) v
def u68b (C : CU) (n : Nat) : CdU W3 := seqU (u68_0 C) (seqU (u68_1 C) (retU))
def u68 : Fu := fun C n args S => u68b C n ((fu3 0 1 4).ent (argU args)) S fun o v S => exU o (u68r v S) (fun _ => .no) (u68r v S)
/-! (*assayer/assayerref5.typer).node -/
def u69_0 (C : CU) := m19 fun a c d e f g h i j k l m o p q r s t w S κ =>
 uNewF 38 4 [(.n 0), (.s []), (.s []), (.s [])] S fun v0 S =>
 κ a c v0 e f g h i j k l m o p q r s t w S
def u69_1 (C : CU) := m19 fun a c d e f g h i j k l m o p q r s t w S κ =>
 uGet 1 a S fun v2 S =>
 κ a c d v2 f g h i j k l m o p q r s t w S
def u69_2 (C : CU) := m19 fun a c d e f g h i j k l m o p q r s t w S κ =>
 uGet 1 a S fun v2 S =>
 uGet 0 a S fun v5 S =>
 uLen true v5 S fun v6 S =>
 uCmp ltN .lss v2 v6 S fun v7 S =>
 eT v7 fun b => cn b
 (uGet 0 a S fun v10 S =>
 uGet 1 a S fun v13 S =>
 uIdxS v10 v13 S fun v14 S =>
 uCall C 94 [v14] S fun v15 S =>
 eT v15 fun b => cn b
 (κ a c d e f g h i j (.t true) l m o p q r s t w S)
 (uGet 0 a S fun v18 S =>
 uGet 1 a S fun v21 S =>
 uIdxS v18 v21 S fun v22 S =>
 uCall C 95 [v22] S fun v23 S =>
 eT v23 fun b => cn b
 (κ a c d e f g h i j (.t true) l m o p q r s t w S)
 (uGet 0 a S fun v26 S =>
 uGet 1 a S fun v29 S =>
 uIdxS v26 v29 S fun v30 S =>
 uEq false .eql v30 (.b 46) S fun v31 S =>
 κ a c d e f g h i j v31 l m o p q r s t w S)))
 (κ a c d e f g h i j (.t false) l m o p q r s t w S)
def u69_3 := k19 fun a c d e f g h i j k l m o p q r s t w => k
def u69_4 (C : CU) := m19 fun a c d e f g h i j k l m o p q r s t w S κ =>
 uGet 1 a S fun v2 S =>
 uAdd v2 (.n 1) S fun v3 S =>
 uNilc a S fun v4 S =>
 uFad 1 v4 S fun v5 S =>
 uSt 1 v5 v3 S fun v6 S =>
 κ a c d e f g h i j k l m o p q r s t w S
def u69_5 (C : CU) (n : Nat) : CdU W19 := seqU (seqU (u69_2 C) (condU u69_3 (skipU) (exitU 0))) (blockU 1 (u69_4 C))
def u69_6 (C : CU) := m19 fun a c d e f g h i j k l m o p q r s t w S κ =>
 uGet 0 a S fun v2 S =>
 uGet 1 a S fun v5 S =>
 uSlS v2 (some e) (some v5) S fun v6 S =>
 κ a c d e v6 g h i j k l m o p q r s t w S
def u69_7 (C : CU) := m19 fun a c d e f g h i j k l m o p q r s t w S κ =>
 uCall C 96 [f] S fun v0 S =>
 uNot v0 S fun v1 S =>
 κ a c d e f g h i j k v1 m o p q r s t w S
def u69_8 := k19 fun a c d e f g h i j k l m o p q r s t w => l
def u69_9 (C : CU) := m19 fun a c d e f g h i j k l m o p q r s t w S κ =>
 uNilc a S fun v0 S =>
 uFad 2 v0 S fun v1 S =>
 uSt 1 v1 (.n 2) S fun v2 S =>
 κ a c d e f g h i j k l m o p q r s t w S
def u69_10 (C : CU) := m19 fun a c d e f g h i j k l m o p q r s t w S κ =>
 uBuildF [(.n 0), (.s []), (.s []), (.s [])] [] S fun v0 S =>
 uSt 4 d v0 S fun v1 S =>
 κ a c d e f g h i j k l m o p q r s t w S
def u69_11 (C : CU) := m19 fun a c d e f g h i j k l m o p q r s t w S κ =>
 uCall C 97 [f] S fun v0 S =>
 κ a c d e f v0 h i j k l m o p q r s t w S
def u69_12 (C : CU) := m19 fun a c d e f g h i j k l m o p q r s t w S κ =>
 uEq false .eql g (.n 0) S fun v0 S =>
 κ a c d e f g h i j k l v0 o p q r s t w S
def u69_13 := k19 fun a c d e f g h i j k l m o p q r s t w => m
def u69_14 (C : CU) := m19 fun a c d e f g h i j k l m o p q r s t w S κ =>
 κ a c d e f g f i j k l m o p q r s t w S
def u69_15 (C : CU) := m19 fun a c d e f g h i j k l m o p q r s t w S κ =>
 κ a c d e f g h (.n 0) j k l m o p q r s t w S
def u69_16 (C : CU) := m19 fun a c d e f g h i j k l m o p q r s t w S κ =>
 uLen true f S fun v0 S =>
 uCmp ltN .lss i v0 S fun v1 S =>
 κ a c d e f g h i j k l m v1 p q r s t w S
def u69_17 := k19 fun a c d e f g h i j k l m o p q r s t w => o
def u69_18 (C : CU) := m19 fun a c d e f g h i j k l m o p q r s t w S κ =>
 uIdxS f i S fun v0 S =>
 uEq false .eql v0 (.b 46) S fun v1 S =>
 κ a c d e f g h i j k l m o v1 q r s t w S
def u69_19 := k19 fun a c d e f g h i j k l m o p q r s t w => p
def u69_20 (C : CU) := m19 fun a c d e f g h i j k l m o p q r s t w S κ =>
 uSlS f none (some i) S fun v0 S =>
 κ a c d e f g v0 i j k l m o p q r s t w S
def u69_21 (C : CU) := m19 fun a c d e f g h i j k l m o p q r s t w S κ =>
 uAdd i (.n 1) S fun v0 S =>
 κ a c d e f g h v0 j k l m o p q r s t w S
def u69_22 (C : CU) (n : Nat) : CdU W19 := seqU (seqU (u69_16 C) (condU u69_17 (skipU) (exitU 2))) (seqU (blockU 3 (seqU (u69_18 C) (condU u69_19 (seqU (u69_20 C) (exitU 2)) (skipU)))) (u69_21 C))
def u69_23 (C : CU) := m19 fun a c d e f g h i j k l m o p q r s t w S κ =>
 uCall C 97 [h] S fun v0 S =>
 uEq true .neq v0 (.n 0) S fun v1 S =>
 κ a c d e f g h i j k l m o p v1 r s t w S
def u69_24 := k19 fun a c d e f g h i j k l m o p q r s t w => q
def u69_25 (C : CU) := m19 fun a c d e f g h i j k l m o p q r s t w S κ =>
 uNilc a S fun v0 S =>
 uFad 2 v0 S fun v1 S =>
 uSt 1 v1 (.n 2) S fun v2 S =>
 κ a c d e f g h i j k l m o p q r s t w S
def u69_26 (C : CU) := m19 fun a c d e f g h i j k l m o p q r s t w S κ =>
 uBuildF [(.n 0), (.s []), (.s []), (.s [])] [(1, 1, f)] S fun v0 S =>
 uSt 4 d v0 S fun v1 S =>
 κ a c d e f g h i j k l m o p q r s t w S
def u69_27 (C : CU) := m19 fun a c d e f g h i j k l m o p q r s t w S κ =>
 uEq true .neq g (.n 15) S fun v0 S =>
 eT v0 fun b => cn b
 (uEq true .neq g (.n 14) S fun v1 S =>
 eT v1 fun b => cn b
 (uEq true .neq g (.n 13) S fun v2 S =>
 κ a c d e f g h i j k l m o p q v2 s t w S)
 (κ a c d e f g h i j k l m o p q (.t false) s t w S))
 (κ a c d e f g h i j k l m o p q (.t false) s t w S)
def u69_28 := k19 fun a c d e f g h i j k l m o p q r s t w => r
def u69_29 (C : CU) := m19 fun a c d e f g h i j k l m o p q r s t w S κ =>
 uBuildF [(.n 0), (.s []), (.s []), (.s [])] [(0, 1, g)] S fun v0 S =>
 uSt 4 d v0 S fun v1 S =>
 κ a c d e f g h i j k l m o p q r s t w S
def u69_30 (C : CU) := m19 fun a c d e f g h i j k l m o p q r s t w S κ =>
 uCmp (fun a b => ltN b a) .gtr c (.n 12) S fun v0 S =>
 κ a c d e f g h i j k l m o p q r v0 t w S
def u69_31 := k19 fun a c d e f g h i j k l m o p q r s t w => s
def u69_32 (C : CU) := m19 fun a c d e f g h i j k l m o p q r s t w S κ =>
 uNilc a S fun v0 S =>
 uFad 2 v0 S fun v1 S =>
 uSt 1 v1 (.n 6) S fun v2 S =>
 κ a c d e f g h i j k l m o p q r s t w S
def u69_33 (C : CU) := m19 fun a c d e f g h i j k l m o p q r s t w S κ =>
 uBuildF [(.n 0), (.s []), (.s []), (.s [])] [] S fun v0 S =>
 uSt 4 d v0 S fun v1 S =>
 κ a c d e f g h i j k l m o p q r s t w S
def u69_34 (C : CU) := m19 fun a c d e f g h i j k l m o p q r s t w S κ =>
 uBuildF [(.n 0), (.s []), (.s []), (.s [])] [(0, 1, g)] S fun v0 S =>
 uNewF 38 4 [(.n 0), (.s []), (.s []), (.s [])] S fun v1 S =>
 uSt 4 v1 v0 S fun v2 S =>
 κ a c d e f g h i v1 k l m o p q r s t w S
def u69_35 (C : CU) := m19 fun a c d e f g h i j k l m o p q r s t w S κ =>
 uCall C 98 [a, (.b 60), c] S fun v0 S =>
 uFad 2 j S fun v1 S =>
 uSt 1 v1 v0 S fun v2 S =>
 κ a c d e f g h i j k l m o p q r s t w S
def u69_36 (C : CU) := m19 fun a c d e f g h i j k l m o p q r s t w S κ =>
 uEq false .eql g (.n 13) S fun v0 S =>
 κ a c d e f g h i j k l m o p q r s v0 w S
def u69_37 := k19 fun a c d e f g h i j k l m o p q r s t w => t
def u69_38 (C : CU) := m19 fun a c d e f g h i j k l m o p q r s t w S κ =>
 uCall C 98 [a, (.b 44), c] S fun v0 S =>
 uFad 3 j S fun v1 S =>
 uSt 1 v1 v0 S fun v2 S =>
 κ a c d e f g h i j k l m o p q r s t w S
def u69_39 (C : CU) := m19 fun a c d e f g h i j k l m o p q r s t w S κ =>
 uGet 2 a S fun v2 S =>
 uEq false .eql v2 (.n 0) S fun v3 S =>
 κ a c d e f g h i j k l m o p q r s t v3 S
def u69_40 := k19 fun a c d e f g h i j k l m o p q r s t w => w
def u69_41 (C : CU) := m19 fun a c d e f g h i j k l m o p q r s t w S κ =>
 uCall C 99 [a, (.b 62)] S fun v0 S =>
 κ a c d e f g h i j k l m o p q r s t w S
def u69_42 (C : CU) := m19 fun a c d e f g h i j k l m o p q r s t w S κ =>
 uLd (some 4) j S fun v0 S =>
 uSt 4 d v0 S fun v1 S =>
 κ a c d e f g h i j k l m o p q r s t w S
def u69r (v : W19) (S : FAW) : RU := W19.rec (motive := fun _ => RU) (fun a c d e f g h i j k l m o p q r s t w => uLd (some 4) d S fun r4 _ => .ok r4 S) v
def u69b (C : CU) (n : Nat) : CdU W19 := seqU (u69_0 C) (seqU (u69_1 C) (seqU (blockU 0 (loopU n (u69_5 C n))) (seqU (u69_6 C) (seqU (seqU (u69_7 C) (condU u69_8 (seqU (u69_9 C) (seqU (u69_10 C) (retU))) (skipU))) (seqU (u69_11 C) (seqU (seqU (u69_12 C) (condU u69_13 (seqU (u69_14 C) (seqU (seqU (u69_15 C) (blockU 2 (loopU n (u69_22 C n)))) (seqU (seqU (u69_23 C) (condU u69_24 (u69_25 C) (skipU))) (seqU (u69_26 C) (retU))))) (skipU))) (seqU (seqU (u69_27 C) (condU u69_28 (seqU (u69_29 C) (retU)) (skipU))) (seqU (seqU (u69_30 C) (condU u69_31 (seqU (u69_32 C) (seqU (u69_33 C) (retU))) (skipU))) (seqU (u69_34 C) (seqU (u69_35 C) (seqU (seqU (u69_36 C) (condU u69_37 (u69_38 C) (skipU))) (seqU (seqU (u69_39 C) (condU u69_40 (u69_41 C) (skipU))) (seqU (u69_42 C) (retU))))))))))))))
def u69 : Fu := fun C n args S => u69b C n ((fu19 0 1 4 5 6 7 8 9 10 60 80 88 93 99 105 120 124 136 145).ent (argU args)) S fun o v S => exU o (u69r v S) (fun _ => .no) (u69r v S)
/-! slices.IndexFunc[[]string,string] -/
def u70_0 (C : CU) := m8 fun a c d e f g h i S κ =>
 κ a c (.n 0) e f g h i S
def u70_1 (C : CU) := m8 fun a c d e f g h i S κ =>
 uLen false a S fun v0 S =>
 κ a c d e v0 (.n 0) h i S
def u70_2 (C : CU) := m8 fun a c d e f g h i S κ =>
 uCmp ltN .lss g f S fun v0 S =>
 κ a c d e f g v0 i S
def u70_3 := k8 fun a c d e f g h i => h
def u70_4 (C : CU) := m8 fun a c d e f g h i S κ =>
 κ a c d g f g h i S
def u70_5 (C : CU) := m8 fun a c d e f g h i S κ =>
 uIad 1 a e S fun v0 S =>
 uLd none v0 S fun v1 S =>
 uCallV C c [v1] S fun v2 S =>
 κ a c d e f g h v2 S
def u70_6 := k8 fun a c d e f g h i => i
def u70_7 (C : CU) := m8 fun a c d e f g h i S κ =>
 κ a c e e f g h i S
def u70_8 (C : CU) := m8 fun a c d e f g h i S κ =>
 uAdd g (.n 1) S fun v0 S =>
 κ a c d e f v0 h i S
def u70_9 (C : CU) (n : Nat) : CdU W8 := seqU (u70_2 C) (seqU (condU u70_3 (skipU) (exitU 0)) (seqU (blockU 1 (seqU (u70_4 C) (seqU (u70_5 C) (condU u70_6 (seqU (u70_7 C) (retU)) (skipU))))) (u70_8 C)))
def u70_10 (C : CU) := m8 fun a c d e f g h i S κ =>
 κ a c (.i .i64 (-1)) e f g h i S
def u70r (v : W8) (S : FAW) : RU := W8.rec (motive := fun _ => RU) (fun a c d e f g h i => .ok d S) v
def u70b (C : CU) (n : Nat) : CdU W8 := seqU (u70_0 C) (seqU (seqU (u70_1 C) (blockU 0 (loopU n (u70_9 C n)))) (seqU (u70_10 C) (retU)))
def u70 : Fu := fun C n args S => u70b C n ((fu8 0 1 4 5 7 8 9 16).ent (argU args)) S fun o v S => exU o (u70r v S) (fun _ => .no) (u70r v S)
/-! assayer/kind.Show$1 -/
def u71_0 (C : CU) := m3 fun a c d S κ =>
 κ a c (.t false) S
def u71_1 (C : CU) := m3 fun a c d S κ =>
 uLd none c S fun v0 S =>
 uCall C 72 [a] S fun v1 S =>
 uEq false .eql v1 v0 S fun v2 S =>
 uLd none c S fun u _ => veqU u v0
 (κ a c v2 S)
def u71r (v : W3) (S : FAW) : RU := W3.rec (motive := fun _ => RU) (fun a c d => .ok d S) v
def u71b (C : CU) (n : Nat) : CdU W3 := seqU (u71_0 C) (seqU (u71_1 C) (retU))
def u71 : Fu := fun C n args S => u71b C n ((fu3 0 1 3).ent (argU args)) S fun o v S => exU o (u71r v S) (fun _ => .no) (u71r v S)
/-! assayer/kind.word -/
def u72_0 (C : CU) := m14 fun a c d e f g h i j k l m o p S κ =>
 κ a (.n 0) d e f g h i j k l m o p S
def u72_1 (C : CU) := m14 fun a c d e f g h i j k l m o p S κ =>
 κ a c a e f g h i j k l m o p S
def u72_2 (C : CU) := m14 fun a c d e f g h i j k l m o p S κ =>
 uEq false .eql d (.s [98, 111, 111, 108]) S fun v0 S =>
 κ a c d v0 f g h i j k l m o p S
def u72_3 := k14 fun a c d e f g h i j k l m o p => e
def u72_4 (C : CU) := m14 fun a c d e f g h i j k l m o p S κ =>
 κ a (.n 2) d e f g h i j k l m o p S
def u72_5 (C : CU) := m14 fun a c d e f g h i j k l m o p S κ =>
 uEq false .eql d (.s [105, 56]) S fun v0 S =>
 κ a c d e v0 g h i j k l m o p S
def u72_6 := k14 fun a c d e f g h i j k l m o p => f
def u72_7 (C : CU) := m14 fun a c d e f g h i j k l m o p S κ =>
 κ a (.n 3) d e f g h i j k l m o p S
def u72_8 (C : CU) := m14 fun a c d e f g h i j k l m o p S κ =>
 uEq false .eql d (.s [105, 49, 54]) S fun v0 S =>
 κ a c d e f v0 h i j k l m o p S
def u72_9 := k14 fun a c d e f g h i j k l m o p => g
def u72_10 (C : CU) := m14 fun a c d e f g h i j k l m o p S κ =>
 κ a (.n 6) d e f g h i j k l m o p S
def u72_11 (C : CU) := m14 fun a c d e f g h i j k l m o p S κ =>
 uEq false .eql d (.s [105, 51, 50]) S fun v0 S =>
 κ a c d e f g v0 i j k l m o p S
def u72_12 := k14 fun a c d e f g h i j k l m o p => h
def u72_13 (C : CU) := m14 fun a c d e f g h i j k l m o p S κ =>
 κ a (.n 8) d e f g h i j k l m o p S
def u72_14 (C : CU) := m14 fun a c d e f g h i j k l m o p S κ =>
 uEq false .eql d (.s [105, 54, 52]) S fun v0 S =>
 κ a c d e f g h v0 j k l m o p S
def u72_15 := k14 fun a c d e f g h i j k l m o p => i
def u72_16 (C : CU) := m14 fun a c d e f g h i j k l m o p S κ =>
 κ a (.n 10) d e f g h i j k l m o p S
def u72_17 (C : CU) := m14 fun a c d e f g h i j k l m o p S κ =>
 uEq false .eql d (.s [100, 111, 117, 98, 108, 101]) S fun v0 S =>
 κ a c d e f g h i v0 k l m o p S
def u72_18 := k14 fun a c d e f g h i j k l m o p => j
def u72_19 (C : CU) := m14 fun a c d e f g h i j k l m o p S κ =>
 κ a (.n 4) d e f g h i j k l m o p S
def u72_20 (C : CU) := m14 fun a c d e f g h i j k l m o p S κ =>
 uEq false .eql d (.s [115, 116, 114, 105, 110, 103]) S fun v0 S =>
 κ a c d e f g h i j v0 l m o p S
def u72_21 := k14 fun a c d e f g h i j k l m o p => k
def u72_22 (C : CU) := m14 fun a c d e f g h i j k l m o p S κ =>
 κ a (.n 11) d e f g h i j k l m o p S
def u72_23 (C : CU) := m14 fun a c d e f g h i j k l m o p S κ =>
 uEq false .eql d (.s [98, 105, 110, 97, 114, 121]) S fun v0 S =>
 κ a c d e f g h i j k v0 m o p S
def u72_24 := k14 fun a c d e f g h i j k l m o p => l
def u72_25 (C : CU) := m14 fun a c d e f g h i j k l m o p S κ =>
 κ a (.n 16) d e f g h i j k l m o p S
def u72_26 (C : CU) := m14 fun a c d e f g h i j k l m o p S κ =>
 uEq false .eql d (.s [108, 105, 115, 116]) S fun v0 S =>
 κ a c d e f g h i j k l v0 o p S
def u72_27 := k14 fun a c d e f g h i j k l m o p => m
def u72_28 (C : CU) := m14 fun a c d e f g h i j k l m o p S κ =>
 κ a (.n 15) d e f g h i j k l m o p S
def u72_29 (C : CU) := m14 fun a c d e f g h i j k l m o p S κ =>
 uEq false .eql d (.s [115, 101, 116]) S fun v0 S =>
 κ a c d e f g h i j k l m v0 p S
def u72_30 := k14 fun a c d e f g h i j k l m o p => o
def u72_31 (C : CU) := m14 fun a c d e f g h i j k l m o p S κ =>
 κ a (.n 14) d e f g h i j k l m o p S
def u72_32 (C : CU) := m14 fun a c d e f g h i j k l m o p S κ =>
 uEq false .eql d (.s [109, 97, 112]) S fun v0 S =>
 κ a c d e f g h i j k l m o v0 S
def u72_33 := k14 fun a c d e f g h i j k l m o p => p
def u72_34 (C : CU) := m14 fun a c d e f g h i j k l m o p S κ =>
 κ a (.n 13) d e f g h i j k l m o p S
def u72_35 (C : CU) := m14 fun a c d e f g h i j k l m o p S κ =>
 κ a (.n 0) d e f g h i j k l m o p S
def u72r (v : W14) (S : FAW) : RU := W14.rec (motive := fun _ => RU) (fun a c d e f g h i j k l m o p => .ok c S) v
def u72b (C : CU) (n : Nat) : CdU W14 := seqU (u72_0 C) (seqU (seqU (u72_1 C) (blockU 0 (seqU (u72_2 C) (condU u72_3 (seqU (u72_4 C) (retU)) (seqU (u72_5 C) (condU u72_6 (seqU (u72_7 C) (retU)) (seqU (u72_8 C) (condU u72_9 (seqU (u72_10 C) (retU)) (seqU (u72_11 C) (condU u72_12 (seqU (u72_13 C) (retU)) (seqU (u72_14 C) (condU u72_15 (seqU (u72_16 C) (retU)) (seqU (u72_17 C) (condU u72_18 (seqU (u72_19 C) (retU)) (seqU (u72_20 C) (condU u72_21 (seqU (u72_22 C) (retU)) (seqU (u72_23 C) (condU u72_24 (seqU (u72_25 C) (retU)) (seqU (u72_26 C) (condU u72_27 (seqU (u72_28 C) (retU)) (seqU (u72_29 C) (condU u72_30 (seqU (u72_31 C) (retU)) (seqU (u72_32 C) (condU u72_33 (seqU (u72_34 C) (retU)) (skipU))))))))))))))))))))))))) (seqU (u72_35 C) (retU)))
def u72 : Fu := fun C n args S => u72b C n ((fu14 0 2 3 4 6 8 10 12 14 16 18 20 22 24).ent (argU args)) S fun o v S => exU o (u72r v S) (fun _ => .no) (u72r v S)
/-! (*assayer/kind.cursor).one -/
def u91_0 (C : CU) := m14 fun a c d e f g h i j k l m o p S κ =>
 κ a c (.n 0) .nl f g h i j k l m o p S
def u91_1 (C : CU) := m14 fun a c d e f g h i j k l m o p S κ =>
 uGet 1 a S fun v2 S =>
 κ a c d e v2 g h i j k l m o p S
def u91_2 (C : CU) := m14 fun a c d e f g h i j k l m o p S κ =>
 uCall C 104 [a] S fun v0 S =>
 uCall C 72 [v0] S fun v1 S =>
 κ a c v1 e f g h i j k l m o p S
def u91_3 (C : CU) := m14 fun a c d e f g h i j k l m o p S κ =>
 uCall C 105 [a] S fun v0 S =>
 κ a c d e f v0 h i j k l m o p S
def u91_4 (C : CU) := m14 fun a c d e f g h i j k l m o p S κ =>
 eT g fun b => cn b
 (κ a c d e f g h i (.t true) k l m o p S)
 (uEq false .eql d (.n 0) S fun v0 S =>
 κ a c d e f g h i v0 k l m o p S)
def u91_5 := k14 fun a c d e f g h i j k l m o p => j
def u91_6 (C : CU) := m14 fun a c d e f g h i j k l m o p S κ =>
 uEq true .neq d (.n 0) S fun v0 S =>
 uCall C 92 [a, v0, (.n 2)] S fun v1 S =>
 κ a c d e f g h i j k l m o p S
def u91_7 (C : CU) := m14 fun a c d e f g h i j k l m o p S κ =>
 uNilc a S fun v0 S =>
 uFad 3 v0 S fun v1 S =>
 uLd none v1 S fun v2 S =>
 uNilc a S fun v3 S =>
 uFad 0 v3 S fun v4 S =>
 uLd none v4 S fun v5 S =>
 uNilc a S fun v6 S =>
 uFad 1 v6 S fun v7 S =>
 uLd none v7 S fun v8 S =>
 uSlS v5 (some f) (some v8) S fun v9 S =>
 uLitF 9 1 [(.s [])] 1 [(0, 1, v9)] S fun v10 S =>
 uLd none v7 S fun u _ => veqU u v8
 (uLd none v4 S fun u _ => veqU u v5
 (uLd none v1 S fun u _ => veqU u v2
 (uApp 9 1 16 v2 v10 S fun v11 S =>
 uNilc a S fun v12 S =>
 uFad 3 v12 S fun v13 S =>
 uSt 1 v13 v11 S fun v14 S =>
 κ a c d e f g h i j k l m o p S)))
def u91_8 (C : CU) := m14 fun a c d e f g h i j k l m o p S κ =>
 κ a c (.n 0) .nl f g h i j k l m o p S
def u91_9 (C : CU) := m14 fun a c d e f g h i j k l m o p S κ =>
 uCall C 106 [d] S fun v0 S =>
 κ a c d e f g v0 i j k l m o p S
def u91_10 (C : CU) := m14 fun a c d e f g h i j k l m o p S κ =>
 uEq false .eql h (.n 0) S fun v0 S =>
 eT v0 fun b => cn b
 (κ a c d e f g h i j (.t true) l m o p S)
 (uGet 2 a S fun v3 S =>
 uEq true .neq v3 (.n 0) S fun v4 S =>
 κ a c d e f g h i j v4 l m o p S)
def u91_11 := k14 fun a c d e f g h i j k l m o p => k
def u91_12 (C : CU) := m14 fun a c d e f g h i j k l m o p S κ =>
 κ a c d .nl f g h i j k l m o p S
def u91_13 (C : CU) := m14 fun a c d e f g h i j k l m o p S κ =>
 uCmp (fun a b => Nat.ble b a) .geq c (.n 12) S fun v0 S =>
 uCall C 92 [a, v0, (.n 6)] S fun v1 S =>
 κ a c d e f g h i j k l m o p S
def u91_14 (C : CU) := m14 fun a c d e f g h i j k l m o p S κ =>
 uGet 4 a S fun v2 S =>
 uAdd c (.n 1) S fun v3 S =>
 uMM true [v2, v3] S fun v4 S =>
 uNilc a S fun v5 S =>
 uFad 4 v5 S fun v6 S =>
 uSt 1 v6 v4 S fun v7 S =>
 κ a c d e f g h i j k l m o p S
def u91_15 (C : CU) := m14 fun a c d e f g h i j k l m o p S κ =>
 κ a c d e f g h i j k h (.n 0) o p S
def u91_16 (C : CU) := m14 fun a c d e f g h i j k l m o p S κ =>
 uCmp ltN .lss m l S fun v0 S =>
 κ a c d e f g h i j k l m v0 p S
def u91_17 := k14 fun a c d e f g h i j k l m o p => o
def u91_18 (C : CU) := m14 fun a c d e f g h i j k l m o p S κ =>
 κ a c d e f g h m j k l m o p S
def u91_19 (C : CU) := m14 fun a c d e f g h i j k l m o p S κ =>
 uIdxS (.s [60, 44]) i S fun v0 S =>
 uCall C 107 [a, v0] S fun v1 S =>
 κ a c d e f g h i j k l m o p S
def u91_20 (C : CU) := m14 fun a c d e f g h i j k l m o p S κ =>
 uGet 2 a S fun v2 S =>
 uEq false .eql v2 (.n 0) S fun v3 S =>
 κ a c d e f g h i j k l m o v3 S
def u91_21 := k14 fun a c d e f g h i j k l m o p => p
def u91_22 (C : CU) := m14 fun a c d e f g h i j k l m o p S κ =>
 uAdd c (.n 1) S fun v0 S =>
 uCall C 91 [a, v0] S fun v1 S =>
 κ a c d e f g h i j k l m o p S
def u91_23 (C : CU) := m14 fun a c d e f g h i j k l m o p S κ =>
 uGet 1 a S fun v2 S =>
 uLitF 3 1 [(.n 0)] 1 [(0, 1, v2)] S fun v3 S =>
 uApp 3 1 8 e v3 S fun v4 S =>
 κ a c d v4 f g h i j k l m o p S
def u91_24 (C : CU) := m14 fun a c d e f g h i j k l m o p S κ =>
 uAdd m (.n 1) S fun v0 S =>
 κ a c d e f g h i j k l v0 o p S
def u91_25 (C : CU) (n : Nat) : CdU W14 := seqU (u91_16 C) (seqU (condU u91_17 (skipU) (exitU 0)) (seqU (blockU 1 (seqU (u91_18 C) (seqU (u91_19 C) (seqU (seqU (u91_20 C) (condU u91_21 (u91_22 C) (skipU))) (u91_23 C))))) (u91_24 C)))
def u91_26 (C : CU) := m14 fun a c d e f g h i j k l m o p S κ =>
 uCall C 107 [a, (.b 62)] S fun v0 S =>
 κ a c d e f g h i j k l m o p S
def u91_27 (C : CU) := m14 fun a c d e f g h i j k l m o p S κ =>
 κ a c d e f g h i j k l m o p S
def u91r (v : W14) (S : FAW) : RU := W14.rec (motive := fun _ => RU) (fun a c d e f g h i j k l m o p => .ok (.u [d, e]) S) v
def u91b (C : CU) (n : Nat) : CdU W14 := seqU (u91_0 C) (seqU (u91_1 C) (seqU (u91_2 C) (seqU (seqU (u91_3 C) (seqU (u91_4 C) (condU u91_5 (seqU (u91_6 C) (seqU (u91_7 C) (seqU (u91_8 C) (retU)))) (skipU)))) (seqU (u91_9 C) (seqU (seqU (u91_10 C) (condU u91_11 (seqU (u91_12 C) (retU)) (skipU))) (seqU (u91_13 C) (seqU (u91_14 C) (seqU (seqU (u91_15 C) (blockU 0 (loopU n (u91_25 C n)))) (seqU (u91_26 C) (seqU (u91_27 C) (retU)))))))))))
def u91 : Fu := fun C n args S => u91b C n ((fu14 0 1 4 5 6 7 8 9 23 57 73 74 75 85).ent (argU args)) S fun o v S => exU o (u91r v S) (fun _ => .no) (u91r v S)
/-! (*assayer/kind.cursor).fails -/
def u92_0 (C : CU) := m4 fun a c d e S κ =>
 eT c fun b => cn b
 (uGet 2 a S fun v2 S =>
 uEq false .eql v2 (.n 0) S fun v3 S =>
 κ a c d v3 S)
 (κ a c d (.t false) S)
def u92_1 := k4 fun a c d e => e
def u92_2 (C : CU) := m4 fun a c d e S κ =>
 uNilc a S fun v0 S =>
 uFad 2 v0 S fun v1 S =>
 uSt 1 v1 d S fun v2 S =>
 κ a c d e S
def u92r (v : W4) (S : FAW) : RU := W4.rec (motive := fun _ => RU) (fun a c d e => .ok (.u []) S) v
def u92b (C : CU) (n : Nat) : CdU W4 := seqU (u92_0 C) (condU u92_1 (u92_2 C) (skipU))
def u92 : Fu := fun C n args S => u92b C n ((fu4 0 1 2 13).ent (argU args)) S fun o v S => exU o (u92r v S) (fun _ => .no) (u92r v S)
/-! internal/stringslite.IndexByte -/
def u93_0 (C : CU) := m3 fun a c d S κ =>
 κ a c (.n 0) S
def u93_1 (C : CU) := m3 fun a c d S κ =>
 uCall C 108 [a, c] S fun v0 S =>
 κ a c v0 S
def u93r (v : W3) (S : FAW) : RU := W3.rec (motive := fun _ => RU) (fun a c d => .ok d S) v
def u93b (C : CU) (n : Nat) : CdU W3 := seqU (u93_0 C) (seqU (u93_1 C) (retU))
def u93 : Fu := fun C n args S => u93b C n ((fu3 0 1 4).ent (argU args)) S fun o v S => exU o (u93r v S) (fun _ => .no) (u93r v S)
/-! assayer/assayerref5.letter -/
def u94_0 (C : CU) := m2 fun a c S κ =>
 κ a (.t false) S
def u94_1 (C : CU) := m2 fun a c S κ =>
 uCmp (fun a b => Nat.ble b a) .geq a (.b 97) S fun v0 S =>
 eT v0 fun b => cn b
 (uCmp Nat.ble .leq a (.b 122) S fun v1 S =>
 eT v1 fun b => cn b
 (κ a (.t true) S)
 (uCmp (fun a b => Nat.ble b a) .geq a (.b 65) S fun v2 S =>
 eT v2 fun b => cn b
 (uCmp Nat.ble .leq a (.b 90) S fun v3 S =>
 eT v3 fun b => cn b
 (κ a (.t true) S)
 (uEq false .eql a (.b 95) S fun v4 S =>
 κ a v4 S))
 (uEq false .eql a (.b 95) S fun v3 S =>
 κ a v3 S)))
 (uCmp (fun a b => Nat.ble b a) .geq a (.b 65) S fun v1 S =>
 eT v1 fun b => cn b
 (uCmp Nat.ble .leq a (.b 90) S fun v2 S =>
 eT v2 fun b => cn b
 (κ a (.t true) S)
 (uEq false .eql a (.b 95) S fun v3 S =>
 κ a v3 S))
 (uEq false .eql a (.b 95) S fun v2 S =>
 κ a v2 S))
def u94r (v : W2) (S : FAW) : RU := W2.rec (motive := fun _ => RU) (fun a c => .ok c S) v
def u94b (C : CU) (n : Nat) : CdU W2 := seqU (u94_0 C) (seqU (u94_1 C) (retU))
def u94 : Fu := fun C n args S => u94b C n ((fu2 0 2).ent (argU args)) S fun o v S => exU o (u94r v S) (fun _ => .no) (u94r v S)
/-! assayer/assayerref5.digit -/
def u95_0 (C : CU) := m2 fun a c S κ =>
 κ a (.t false) S
def u95_1 (C : CU) := m2 fun a c S κ =>
 uCmp (fun a b => Nat.ble b a) .geq a (.b 48) S fun v0 S =>
 eT v0 fun b => cn b
 (uCmp Nat.ble .leq a (.b 57) S fun v1 S =>
 κ a v1 S)
 (κ a (.t false) S)
def u95r (v : W2) (S : FAW) : RU := W2.rec (motive := fun _ => RU) (fun a c => .ok c S) v
def u95b (C : CU) (n : Nat) : CdU W2 := seqU (u95_0 C) (seqU (u95_1 C) (retU))
def u95 : Fu := fun C n args S => u95b C n ((fu2 0 2).ent (argU args)) S fun o v S => exU o (u95r v S) (fun _ => .no) (u95r v S)
/-! assayer/assayerref5.far -/
def u96_0 (C : CU) := m6 fun a c d e f g S κ =>
 κ a (.t false) d e f g S
def u96_1 (C : CU) := m6 fun a c d e f g S κ =>
 uEq false .eql a (.s []) S fun v0 S =>
 κ a c d v0 f g S
def u96_2 := k6 fun a c d e f g => e
def u96_3 (C : CU) := m6 fun a c d e f g S κ =>
 κ a (.t false) d e f g S
def u96_4 (C : CU) := m6 fun a c d e f g S κ =>
 κ a c (.n 0) e f g S
def u96_5 (C : CU) := m6 fun a c d e f g S κ =>
 uLen true a S fun v0 S =>
 uCmp ltN .lss d v0 S fun v1 S =>
 κ a c d e v1 g S
def u96_6 := k6 fun a c d e f g => f
def u96_7 (C : CU) := m6 fun a c d e f g S κ =>
 uEq false .eql d (.n 0) S fun v0 S =>
 eT v0 fun b => cn b
 (uIdxS a d S fun v1 S =>
 uCall C 94 [v1] S fun v2 S =>
 uNot v2 S fun v3 S =>
 κ a c d e f v3 S)
 (uSub d (.n 1) S fun v1 S =>
 uIdxS a v1 S fun v2 S =>
 uEq false .eql v2 (.b 46) S fun v3 S =>
 eT v3 fun b => cn b
 (uIdxS a d S fun v4 S =>
 uCall C 94 [v4] S fun v5 S =>
 uNot v5 S fun v6 S =>
 κ a c d e f v6 S)
 (κ a c d e f (.t false) S))
def u96_8 := k6 fun a c d e f g => g
def u96_9 (C : CU) := m6 fun a c d e f g S κ =>
 κ a (.t false) d e f g S
def u96_10 (C : CU) := m6 fun a c d e f g S κ =>
 uAdd d (.n 1) S fun v0 S =>
 κ a c v0 e f g S
def u96_11 (C : CU) (n : Nat) : CdU W6 := seqU (seqU (u96_5 C) (condU u96_6 (skipU) (exitU 0))) (seqU (blockU 1 (seqU (u96_7 C) (condU u96_8 (seqU (u96_9 C) (retU)) (skipU)))) (u96_10 C))
def u96_12 (C : CU) := m6 fun a c d e f g S κ =>
 uLen true a S fun v0 S =>
 uSub v0 (.n 1) S fun v1 S =>
 uIdxS a v1 S fun v2 S =>
 uEq true .neq v2 (.b 46) S fun v3 S =>
 κ a v3 d e f g S
def u96r (v : W6) (S : FAW) : RU := W6.rec (motive := fun _ => RU) (fun a c d e f g => .ok c S) v
def u96b (C : CU) (n : Nat) : CdU W6 := seqU (u96_0 C) (seqU (seqU (u96_1 C) (condU u96_2 (seqU (u96_3 C) (retU)) (skipU))) (seqU (seqU (u96_4 C) (blockU 0 (loopU n (u96_11 C n)))) (seqU (u96_12 C) (retU))))
def u96 : Fu := fun C n args S => u96b C n ((fu6 0 2 3 5 9 27).ent (argU args)) S fun o v S => exU o (u96r v S) (fun _ => .no) (u96r v S)
/-! assayer/assayerref5.base -/
def u97_0 (C : CU) := m14 fun a c d e f g h i j k l m o p S κ =>
 κ a (.n 0) d e f g h i j k l m o p S
def u97_1 (C : CU) := m14 fun a c d e f g h i j k l m o p S κ =>
 κ a c a e f g h i j k l m o p S
def u97_2 (C : CU) := m14 fun a c d e f g h i j k l m o p S κ =>
 uEq false .eql d (.s [98, 111, 111, 108]) S fun v0 S =>
 κ a c d v0 f g h i j k l m o p S
def u97_3 := k14 fun a c d e f g h i j k l m o p => e
def u97_4 (C : CU) := m14 fun a c d e f g h i j k l m o p S κ =>
 κ a (.n 2) d e f g h i j k l m o p S
def u97_5 (C : CU) := m14 fun a c d e f g h i j k l m o p S κ =>
 uEq false .eql d (.s [105, 56]) S fun v0 S =>
 κ a c d e v0 g h i j k l m o p S
def u97_6 := k14 fun a c d e f g h i j k l m o p => f
def u97_7 (C : CU) := m14 fun a c d e f g h i j k l m o p S κ =>
 κ a (.n 3) d e f g h i j k l m o p S
def u97_8 (C : CU) := m14 fun a c d e f g h i j k l m o p S κ =>
 uEq false .eql d (.s [105, 49, 54]) S fun v0 S =>
 κ a c d e f v0 h i j k l m o p S
def u97_9 := k14 fun a c d e f g h i j k l m o p => g
def u97_10 (C : CU) := m14 fun a c d e f g h i j k l m o p S κ =>
 κ a (.n 6) d e f g h i j k l m o p S
def u97_11 (C : CU) := m14 fun a c d e f g h i j k l m o p S κ =>
 uEq false .eql d (.s [105, 51, 50]) S fun v0 S =>
 κ a c d e f g v0 i j k l m o p S
def u97_12 := k14 fun a c d e f g h i j k l m o p => h
def u97_13 (C : CU) := m14 fun a c d e f g h i j k l m o p S κ =>
 κ a (.n 8) d e f g h i j k l m o p S
def u97_14 (C : CU) := m14 fun a c d e f g h i j k l m o p S κ =>
 uEq false .eql d (.s [105, 54, 52]) S fun v0 S =>
 κ a c d e f g h v0 j k l m o p S
def u97_15 := k14 fun a c d e f g h i j k l m o p => i
def u97_16 (C : CU) := m14 fun a c d e f g h i j k l m o p S κ =>
 κ a (.n 10) d e f g h i j k l m o p S
def u97_17 (C : CU) := m14 fun a c d e f g h i j k l m o p S κ =>
 uEq false .eql d (.s [100, 111, 117, 98, 108, 101]) S fun v0 S =>
 κ a c d e f g h i v0 k l m o p S
def u97_18 := k14 fun a c d e f g h i j k l m o p => j
def u97_19 (C : CU) := m14 fun a c d e f g h i j k l m o p S κ =>
 κ a (.n 4) d e f g h i j k l m o p S
def u97_20 (C : CU) := m14 fun a c d e f g h i j k l m o p S κ =>
 uEq false .eql d (.s [115, 116, 114, 105, 110, 103]) S fun v0 S =>
 κ a c d e f g h i j v0 l m o p S
def u97_21 := k14 fun a c d e f g h i j k l m o p => k
def u97_22 (C : CU) := m14 fun a c d e f g h i j k l m o p S κ =>
 κ a (.n 11) d e f g h i j k l m o p S
def u97_23 (C : CU) := m14 fun a c d e f g h i j k l m o p S κ =>
 uEq false .eql d (.s [98, 105, 110, 97, 114, 121]) S fun v0 S =>
 κ a c d e f g h i j k v0 m o p S
def u97_24 := k14 fun a c d e f g h i j k l m o p => l
def u97_25 (C : CU) := m14 fun a c d e f g h i j k l m o p S κ =>
 κ a (.n 16) d e f g h i j k l m o p S
def u97_26 (C : CU) := m14 fun a c d e f g h i j k l m o p S κ =>
 uEq false .eql d (.s [108, 105, 115, 116]) S fun v0 S =>
 κ a c d e f g h i j k l v0 o p S
def u97_27 := k14 fun a c d e f g h i j k l m o p => m
def u97_28 (C : CU) := m14 fun a c d e f g h i j k l m o p S κ =>
 κ a (.n 15) d e f g h i j k l m o p S
def u97_29 (C : CU) := m14 fun a c d e f g h i j k l m o p S κ =>
 uEq false .eql d (.s [115, 101, 116]) S fun v0 S =>
 κ a c d e f g h i j k l m v0 p S
def u97_30 := k14 fun a c d e f g h i j k l m o p => o
def u97_31 (C : CU) := m14 fun a c d e f g h i j k l m o p S κ =>
 κ a (.n 14) d e f g h i j k l m o p S
def u97_32 (C : CU) := m14 fun a c d e f g h i j k l m o p S κ =>
 uEq false .eql d (.s [109, 97, 112]) S fun v0 S =>
 κ a c d e f g h i j k l m o v0 S
def u97_33 := k14 fun a c d e f g h i j k l m o p => p
def u97_34 (C : CU) := m14 fun a c d e f g h i j k l m o p S κ =>
 κ a (.n 13) d e f g h i j k l m o p S
def u97_35 (C : CU) := m14 fun a c d e f g h i j k l m o p S κ =>
 κ a (.n 0) d e f g h i j k l m o p S
def u97r (v : W14) (S : FAW) : RU := W14.rec (motive := fun _ => RU) (fun a c d e f g h i j k l m o p => .ok c S) v
def u97b (C : CU) (n : Nat) : CdU W14 := seqU (u97_0 C) (seqU (seqU (u97_1 C) (blockU 0 (seqU (u97_2 C) (condU u97_3 (seqU (u97_4 C) (retU)) (seqU (u97_5 C) (condU u97_6 (seqU (u97_7 C) (retU)) (seqU (u97_8 C) (condU u97_9 (seqU (u97_10 C) (retU)) (seqU (u97_11 C) (condU u97_12 (seqU (u97_13 C) (retU)) (seqU (u97_14 C) (condU u97_15 (seqU (u97_16 C) (retU)) (seqU (u97_17 C) (condU u97_18 (seqU (u97_19 C) (retU)) (seqU (u97_20 C) (condU u97_21 (seqU (u97_22 C) (retU)) (seqU (u97_23 C) (condU u97_24 (seqU (u97_25 C) (retU)) (seqU (u97_26 C) (condU u97_27 (seqU (u97_28 C) (retU)) (seqU (u97_29 C) (condU u97_30 (seqU (u97_31 C) (retU)) (seqU (u97_32 C) (condU u97_33 (seqU (u97_34 C) (retU)) (skipU))))))))))))))))))))))))) (seqU (u97_35 C) (retU)))
def u97 : Fu := fun C n args S => u97b C n ((fu14 0 2 3 4 6 8 10 12 14 16 18 20 22 24).ent (argU args)) S fun o v S => exU o (u97r v S) (fun _ => .no) (u97r v S)
/-! (*assayer/assayerref5.typer).part -/
def u98_0 (C : CU) := m7 fun a c d e f g h S κ =>
 κ a c d (.s []) f g h S
def u98_1 (C : CU) := m7 fun a c d e f g h S κ =>
 uGet 2 a S fun v2 S =>
 uEq true .neq v2 (.n 0) S fun v3 S =>
 κ a c d e f v3 h S
def u98_2 := k7 fun a c d e f g h => g
def u98_3 (C : CU) := m7 fun a c d e f g h S κ =>
 κ a c d (.s []) f g h S
def u98_4 (C : CU) := m7 fun a c d e f g h S κ =>
 uCall C 99 [a, c] S fun v0 S =>
 κ a c d e f g h S
def u98_5 (C : CU) := m7 fun a c d e f g h S κ =>
 uGet 1 a S fun v2 S =>
 κ a c d e v2 g h S
def u98_6 (C : CU) := m7 fun a c d e f g h S κ =>
 uGet 2 a S fun v2 S =>
 uEq false .eql v2 (.n 0) S fun v3 S =>
 κ a c d e f g v3 S
def u98_7 := k7 fun a c d e f g h => h
def u98_8 (C : CU) := m7 fun a c d e f g h S κ =>
 uAdd d (.n 1) S fun v0 S =>
 uCall C 69 [a, v0] S fun v1 S =>
 κ a c d e f g h S
def u98_9 (C : CU) := m7 fun a c d e f g h S κ =>
 uGet 0 a S fun v2 S =>
 uGet 1 a S fun v5 S =>
 uSlS v2 (some f) (some v5) S fun v6 S =>
 κ a c d v6 f g h S
def u98r (v : W7) (S : FAW) : RU := W7.rec (motive := fun _ => RU) (fun a c d e f g h => .ok e S) v
def u98b (C : CU) (n : Nat) : CdU W7 := seqU (u98_0 C) (seqU (seqU (u98_1 C) (condU u98_2 (seqU (u98_3 C) (retU)) (skipU))) (seqU (u98_4 C) (seqU (u98_5 C) (seqU (seqU (u98_6 C) (condU u98_7 (u98_8 C) (skipU))) (seqU (u98_9 C) (retU))))))
def u98 : Fu := fun C n args S => u98b C n ((fu7 0 1 2 6 7 12 24).ent (argU args)) S fun o v S => exU o (u98r v S) (fun _ => .no) (u98r v S)
/-! (*assayer/assayerref5.typer).sign -/
def u99_0 (C : CU) := m3 fun a c d S κ =>
 uGet 1 a S fun v2 S =>
 uGet 0 a S fun v5 S =>
 uLen true v5 S fun v6 S =>
 uEq false .eql v2 v6 S fun v7 S =>
 eT v7 fun b => cn b
 (κ a c (.t true) S)
 (uGet 0 a S fun v10 S =>
 uGet 1 a S fun v13 S =>
 uIdxS v10 v13 S fun v14 S =>
 uEq true .neq v14 c S fun v15 S =>
 κ a c v15 S)
def u99_1 := k3 fun a c d => d
def u99_2 (C : CU) := m3 fun a c d S κ =>
 uNilc a S fun v0 S =>
 uFad 2 v0 S fun v1 S =>
 uSt 1 v1 (.n 2) S fun v2 S =>
 κ a c d S
def u99_3 (C : CU) := m3 fun a c d S κ =>
 uGet 1 a S fun v2 S =>
 uAdd v2 (.n 1) S fun v3 S =>
 uNilc a S fun v4 S =>
 uFad 1 v4 S fun v5 S =>
 uSt 1 v5 v3 S fun v6 S =>
 κ a c d S
def u99r (v : W3) (S : FAW) : RU := W3.rec (motive := fun _ => RU) (fun a c d => .ok (.u []) S) v
def u99b (C : CU) (n : Nat) : CdU W3 := seqU (seqU (u99_0 C) (condU u99_1 (seqU (u99_2 C) (retU)) (skipU))) (u99_3 C)
def u99 : Fu := fun C n args S => u99b C n ((fu3 0 1 26).ent (argU args)) S fun o v S => exU o (u99r v S) (fun _ => .no) (u99r v S)
/-! (*assayer/kind.cursor).part -/
def u104_0 (C : CU) := m4 fun a c d e S κ =>
 κ a (.s []) d e S
def u104_1 (C : CU) := m4 fun a c d e S κ =>
 uGet 1 a S fun v2 S =>
 κ a c v2 e S
def u104_2 (C : CU) := m4 fun a c d e S κ =>
 uGet 1 a S fun v2 S =>
 uGet 0 a S fun v5 S =>
 uLen true v5 S fun v6 S =>
 uCmp (fun a b => Nat.ble b a) .geq v2 v6 S fun v7 S =>
 eT v7 fun b => cn b
 (uCall C 92 [a, (.t true), (.n 2)] S fun v8 S =>
 κ a c d e S)
 (uGet 0 a S fun v10 S =>
 uGet 1 a S fun v13 S =>
 uIdxS v10 v13 S fun v14 S =>
 uCall C 109 [v14] S fun v15 S =>
 uNot v15 S fun v16 S =>
 uCall C 92 [a, v16, (.n 2)] S fun v17 S =>
 κ a c d e S)
def u104_3 (C : CU) := m4 fun a c d e S κ =>
 uGet 2 a S fun v2 S =>
 uEq false .eql v2 (.n 0) S fun v3 S =>
 eT v3 fun b => cn b
 (uGet 1 a S fun v6 S =>
 uGet 0 a S fun v9 S =>
 uLen true v9 S fun v10 S =>
 uCmp ltN .lss v6 v10 S fun v11 S =>
 eT v11 fun b => cn b
 (uGet 0 a S fun v14 S =>
 uGet 1 a S fun v17 S =>
 uIdxS v14 v17 S fun v18 S =>
 uCall C 109 [v18] S fun v19 S =>
 eT v19 fun b => cn b
 (κ a c d (.t true) S)
 (uGet 0 a S fun v22 S =>
 uGet 1 a S fun v25 S =>
 uIdxS v22 v25 S fun v26 S =>
 uCmp (fun a b => Nat.ble b a) .geq v26 (.b 48) S fun v27 S =>
 eT v27 fun b => cn b
 (uGet 0 a S fun v30 S =>
 uGet 1 a S fun v33 S =>
 uIdxS v30 v33 S fun v34 S =>
 uCmp Nat.ble .leq v34 (.b 57) S fun v35 S =>
 κ a c d v35 S)
 (κ a c d (.t false) S)))
 (κ a c d (.t false) S))
 (κ a c d (.t false) S)
def u104_4 := k4 fun a c d e => e
def u104_5 (C : CU) := m4 fun a c d e S κ =>
 uGet 1 a S fun v2 S =>
 uAdd v2 (.n 1) S fun v3 S =>
 uNilc a S fun v4 S =>
 uFad 1 v4 S fun v5 S =>
 uSt 1 v5 v3 S fun v6 S =>
 κ a c d e S
def u104_6 (C : CU) (n : Nat) : CdU W4 := seqU (seqU (u104_3 C) (condU u104_4 (skipU) (exitU 0))) (blockU 1 (u104_5 C))
def u104_7 (C : CU) := m4 fun a c d e S κ =>
 uGet 0 a S fun v2 S =>
 uGet 1 a S fun v5 S =>
 uSlS v2 (some d) (some v5) S fun v6 S =>
 κ a v6 d e S
def u104r (v : W4) (S : FAW) : RU := W4.rec (motive := fun _ => RU) (fun a c d e => .ok c S) v
def u104b (C : CU) (n : Nat) : CdU W4 := seqU (u104_0 C) (seqU (u104_1 C) (seqU (u104_2 C) (seqU (blockU 0 (loopU n (u104_6 C n))) (seqU (u104_7 C) (retU)))))
def u104 : Fu := fun C n args S => u104b C n ((fu4 0 2 3 85).ent (argU args)) S fun o v S => exU o (u104r v S) (fun _ => .no) (u104r v S)
/-! (*assayer/kind.cursor).rest -/
def u105_0 (C : CU) := m4 fun a c d e S κ =>
 κ a (.t false) d e S
def u105_1 (C : CU) := m4 fun a c d e S κ =>
 uGet 1 a S fun v2 S =>
 κ a c v2 e S
def u105_2 (C : CU) := m4 fun a c d e S κ =>
 uGet 2 a S fun v2 S =>
 uEq false .eql v2 (.n 0) S fun v3 S =>
 eT v3 fun b => cn b
 (uGet 1 a S fun v6 S =>
 uGet 0 a S fun v9 S =>
 uLen true v9 S fun v10 S =>
 uCmp ltN .lss v6 v10 S fun v11 S =>
 eT v11 fun b => cn b
 (uGet 0 a S fun v14 S =>
 uGet 1 a S fun v17 S =>
 uIdxS v14 v17 S fun v18 S =>
 uEq false .eql v18 (.b 46) S fun v19 S =>
 κ a c d v19 S)
 (κ a c d (.t false) S))
 (κ a c d (.t false) S)
def u105_3 := k4 fun a c d e => e
def u105_4 (C : CU) := m4 fun a c d e S κ =>
 uGet 1 a S fun v2 S =>
 uAdd v2 (.n 1) S fun v3 S =>
 uNilc a S fun v4 S =>
 uFad 1 v4 S fun v5 S =>
 uSt 1 v5 v3 S fun v6 S =>
 κ a c d e S
def u105_5 (C : CU) := m4 fun a c d e S κ =>
 uCall C 104 [a] S fun v0 S =>
 κ a c d e S
def u105_6 (C : CU) (n : Nat) : CdU W4 := seqU (seqU (u105_2 C) (condU u105_3 (skipU) (exitU 0))) (blockU 1 (seqU (u105_4 C) (u105_5 C)))
def u105_7 (C : CU) := m4 fun a c d e S κ =>
 uGet 1 a S fun v2 S =>
 uCmp (fun a b => ltN b a) .gtr v2 d S fun v3 S =>
 κ a v3 d e S
def u105r (v : W4) (S : FAW) : RU := W4.rec (motive := fun _ => RU) (fun a c d e => .ok c S) v
def u105b (C : CU) (n : Nat) : CdU W4 := seqU (u105_0 C) (seqU (u105_1 C) (seqU (blockU 0 (loopU n (u105_6 C n))) (seqU (u105_7 C) (retU))))
def u105 : Fu := fun C n args S => u105b C n ((fu4 0 2 3 36).ent (argU args)) S fun o v S => exU o (u105r v S) (fun _ => .no) (u105r v S)
/-! assayer/kind.inner -/
def u106_0 (C : CU) := m5 fun a c d e f S κ =>
 κ a (.n 0) d e f S
def u106_1 (C : CU) := m5 fun a c d e f S κ =>
 κ a c a e f S
def u106_2 (C : CU) := m5 fun a c d e f S κ =>
 uEq false .eql d (.n 15) S fun v0 S =>
 κ a c d v0 f S
def u106_3 := k5 fun a c d e f => e
def u106_4 (C : CU) := m5 fun a c d e f S κ =>
 uEq false .eql d (.n 14) S fun v0 S =>
 κ a c d v0 f S
def u106_5 := k5 fun a c d e f => e
def u106_6 (C : CU) := m5 fun a c d e f S κ =>
 κ a (.n 1) d e f S
def u106_7 (C : CU) := m5 fun a c d e f S κ =>
 uEq false .eql d (.n 13) S fun v0 S =>
 κ a c d e v0 S
def u106_8 := k5 fun a c d e f => f
def u106_9 (C : CU) := m5 fun a c d e f S κ =>
 κ a (.n 2) d e f S
def u106_10 (C : CU) := m5 fun a c d e f S κ =>
 κ a (.n 0) d e f S
def u106r (v : W5) (S : FAW) : RU := W5.rec (motive := fun _ => RU) (fun a c d e f => .ok c S) v
def u106b (C : CU) (n : Nat) : CdU W5 := seqU (u106_0 C) (seqU (seqU (u106_1 C) (blockU 0 (seqU (seqU (u106_2 C) (condU u106_3 (skipU) (u106_4 C))) (condU u106_5 (seqU (u106_6 C) (retU)) (seqU (u106_7 C) (condU u106_8 (seqU (u106_9 C) (retU)) (skipU))))))) (seqU (u106_10 C) (retU)))
def u106 : Fu := fun C n args S => u106b C n ((fu5 0 2 3 4 7).ent (argU args)) S fun o v S => exU o (u106r v S) (fun _ => .no) (u106r v S)
/-! (*assayer/kind.cursor).sign -/
def u107_0 (C : CU) := m3 fun a c d S κ =>
 uGet 1 a S fun v2 S =>
 uGet 0 a S fun v5 S =>
 uLen true v5 S fun v6 S =>
 uCmp (fun a b => Nat.ble b a) .geq v2 v6 S fun v7 S =>
 eT v7 fun b => cn b
 (uCall C 92 [a, (.t true), (.n 2)] S fun v8 S =>
 κ a c d S)
 (uGet 0 a S fun v10 S =>
 uGet 1 a S fun v13 S =>
 uIdxS v10 v13 S fun v14 S =>
 uEq true .neq v14 c S fun v15 S =>
 uCall C 92 [a, v15, (.n 2)] S fun v16 S =>
 κ a c d S)
def u107_1 (C : CU) := m3 fun a c d S κ =>
 uGet 2 a S fun v2 S =>
 uEq false .eql v2 (.n 0) S fun v3 S =>
 κ a c v3 S
def u107_2 := k3 fun a c d => d
def u107_3 (C : CU) := m3 fun a c d S κ =>
 uGet 1 a S fun v2 S =>
 uAdd v2 (.n 1) S fun v3 S =>
 uNilc a S fun v4 S =>
 uFad 1 v4 S fun v5 S =>
 uSt 1 v5 v3 S fun v6 S =>
 κ a c d S
def u107r (v : W3) (S : FAW) : RU := W3.rec (motive := fun _ => RU) (fun a c d => .ok (.u []) S) v
def u107b (C : CU) (n : Nat) : CdU W3 := seqU (u107_0 C) (seqU (u107_1 C) (condU u107_2 (u107_3 C) (skipU)))
def u107 : Fu := fun C n args S => u107b C n ((fu3 0 1 33).ent (argU args)) S fun o v S => exU o (u107r v S) (fun _ => .no) (u107r v S)
/-! assayer/kind.letter -/
def u109_0 (C : CU) := m2 fun a c S κ =>
 κ a (.t false) S
def u109_1 (C : CU) := m2 fun a c S κ =>
 uEq false .eql a (.b 95) S fun v0 S =>
 eT v0 fun b => cn b
 (κ a (.t true) S)
 (uCmp (fun a b => Nat.ble b a) .geq a (.b 97) S fun v1 S =>
 eT v1 fun b => cn b
 (uCmp Nat.ble .leq a (.b 122) S fun v2 S =>
 eT v2 fun b => cn b
 (κ a (.t true) S)
 (uCmp (fun a b => Nat.ble b a) .geq a (.b 65) S fun v3 S =>
 eT v3 fun b => cn b
 (uCmp Nat.ble .leq a (.b 90) S fun v4 S =>
 κ a v4 S)
 (κ a (.t false) S)))
 (uCmp (fun a b => Nat.ble b a) .geq a (.b 65) S fun v2 S =>
 eT v2 fun b => cn b
 (uCmp Nat.ble .leq a (.b 90) S fun v3 S =>
 κ a v3 S)
 (κ a (.t false) S)))
def u109r (v : W2) (S : FAW) : RU := W2.rec (motive := fun _ => RU) (fun a c => .ok c S) v
def u109b (C : CU) (n : Nat) : CdU W2 := seqU (u109_0 C) (seqU (u109_1 C) (retU))
def u109 : Fu := fun C n args S => u109b C n ((fu2 0 2).ent (argU args)) S fun o v S => exU o (u109r v S) (fun _ => .no) (u109r v S)
end
end Go.Proofs.Ytgejdfhfgphcbaa.Ev
