/- Functions of the program, each told by what goes on behind each step: printed by a program of ours. -/
import Derived.Test.YthclmjelknibhaaDskX
import Derived.Test.YthclmjelknibhaaDskW
namespace Go.Proofs.Ythclmjelknibhaa.Ev
open Go Go.RowKit
set_option linter.unusedVariables false
set_option linter.constructorNameAsVariable false
noncomputable section
/-! assayer/assayerlaw27.DiskLasts -/
def u4_0 (C : CU) := m16 fun a c d e f g h i j k l m o p q r S κ =>
 κ a c d e (.t false) g h i j k l m o p q r S
def u4_1 (C : CU) := m16 fun a c d e f g h i j k l m o p q r S κ =>
 uCall C 14 [] S fun v0 S =>
 uNot v0 S fun v1 S =>
 κ a c d e f g h i j k l v1 o p q r S
def u4_2 := k16 fun a c d e f g h i j k l m o p q r => m
def u4_3 (C : CU) := m16 fun a c d e f g h i j k l m o p q r S κ =>
 κ a c d e (.t false) g h i j k l m o p q r S
def u4_4 (C : CU) := m16 fun a c d e f g h i j k l m o p q r S κ =>
 uLen false a S fun v0 S =>
 uCmp (fun a b => ltN b a) .gtr v0 (.n 60) S fun v1 S =>
 eT v1 fun b => cn b
 (κ a c d e f g h i j k l m (.t true) p q r S)
 (uLen false c S fun v2 S =>
 uCmp (fun a b => ltN b a) .gtr v2 (.n 60) S fun v3 S =>
 κ a c d e f g h i j k l m v3 p q r S)
def u4_5 := k16 fun a c d e f g h i j k l m o p q r => o
def u4_6 (C : CU) := m16 fun a c d e f g h i j k l m o p q r S κ =>
 κ a c d e (.t true) g h i j k l m o p q r S
def u4_7 (C : CU) := m16 fun a c d e f g h i j k l m o p q r S κ =>
 uCall C 15 [(.n 200)] S fun v0 S =>
 κ a c d e f v0 h i j k l m o p q r S
def u4_8 (C : CU) := m16 fun a c d e f g h i j k l m o p q r S κ =>
 uCall C 17 [g, (.s [112]), a] S fun v0 S =>
 uEq true .neq v0 (.n 0) S fun v1 S =>
 eT v1 fun b => cn b
 (κ a c d e f g h i j k l m o (.t true) q r S)
 (uCall C 18 [g, (.s [112])] S fun v2 S =>
 uEq true .neq v2 (.n 0) S fun v3 S =>
 eT v3 fun b => cn b
 (κ a c d e f g h i j k l m o (.t true) q r S)
 (uCall C 17 [g, (.s [112]), c] S fun v4 S =>
 uEq true .neq v4 (.n 0) S fun v5 S =>
 κ a c d e f g h i j k l m o v5 q r S))
def u4_9 := k16 fun a c d e f g h i j k l m o p q r => p
def u4_10 (C : CU) := m16 fun a c d e f g h i j k l m o p q r S κ =>
 κ a c d e (.t false) g h i j k l m o p q r S
def u4_11 (C : CU) := m16 fun a c d e f g h i j k l m o p q r S κ =>
 κ a c d e f g (.s [112]) i j k l m o p q r S
def u4_12 (C : CU) := m16 fun a c d e f g h i j k l m o p q r S κ =>
 κ a c d e f g h i j k l m o p e r S
def u4_13 := k16 fun a c d e f g h i j k l m o p q r => q
def u4_14 (C : CU) := m16 fun a c d e f g h i j k l m o p q r S κ =>
 κ a c d e f g (.s [113]) i j k l m o p q r S
def u4_15 (C : CU) := m16 fun a c d e f g h i j k l m o p q r S κ =>
 uCall C 21 [g, (.s [112]), (.s [113])] S fun v0 S =>
 uEq true .neq v0 (.n 0) S fun v1 S =>
 κ a c d e f g h i j k l m o p q v1 S
def u4_16 := k16 fun a c d e f g h i j k l m o p q r => r
def u4_17 (C : CU) := m16 fun a c d e f g h i j k l m o p q r S κ =>
 κ a c d e (.t false) g h i j k l m o p q r S
def u4_18 (C : CU) := m16 fun a c d e f g h i j k l m o p q r S κ =>
 uCall C 22 [g, d] S fun v0 S =>
 κ a c d e f g h i j k l m o p q r S
def u4_19 (C : CU) := m16 fun a c d e f g h i j k l m o p q r S κ =>
 uCall C 20 [g, h] S fun v0 S =>
 uExt 0 v0 S fun v1 S =>
 uExt 1 v0 S fun v2 S =>
 κ a c d e f g h v2 j k l m o p q r S
def u4_20 (C : CU) := m16 fun a c d e f g h i j k l m o p q r S κ =>
 uCall C 19 [g] S fun v0 S =>
 κ a c d e f g h i j k l m o p q r S
def u4_21 (C : CU) := m16 fun a c d e f g h i j k l m o p q r S κ =>
 uCall C 20 [g, h] S fun v0 S =>
 uExt 0 v0 S fun v1 S =>
 uExt 1 v0 S fun v2 S =>
 κ a c d e f g h i v1 v2 l m o p q r S
def u4_22 (C : CU) := m16 fun a c d e f g h i j k l m o p q r S κ =>
 uMM true [d, (.n 0)] S fun v0 S =>
 uLen false c S fun v1 S =>
 uMM false [v0, v1] S fun v2 S =>
 κ a c d e f g h i j k v2 m o p q r S
def u4_23 (C : CU) := m16 fun a c d e f g h i j k l m o p q r S κ =>
 uEq false .eql i (.n 18) S fun v0 S =>
 eT v0 fun b => cn b
 (uEq false .eql k (.n 0) S fun v1 S =>
 eT v1 fun b => cn b
 (uCvBS j S fun v2 S =>
 uCvBS a S fun v3 S =>
 uSlV 1 c none (some l) none S fun v4 S =>
 uCvBS v4 S fun v5 S =>
 uAdd v3 v5 S fun v6 S =>
 uEq false .eql v2 v6 S fun v7 S =>
 eT v7 fun b => cn b
 (uLen false a S fun v8 S =>
 uSub (.n 200) v8 S fun v9 S =>
 uSub v9 l S fun v10 S =>
 uCall C 23 [g] S fun v11 S =>
 uEq false .eql v11 v10 S fun v12 S =>
 κ a c d e v12 g h i j k l m o p q r S)
 (κ a c d e (.t false) g h i j k l m o p q r S))
 (κ a c d e (.t false) g h i j k l m o p q r S))
 (κ a c d e (.t false) g h i j k l m o p q r S)
def u4r (v : W16) (S : FAW) : RU := W16.rec (motive := fun _ => RU) (fun a c d e f g h i j k l m o p q r => .ok f S) v
def u4b (C : CU) (n : Nat) : CdU W16 := seqU (u4_0 C) (seqU (seqU (u4_1 C) (condU u4_2 (seqU (u4_3 C) (retU)) (skipU))) (seqU (seqU (u4_4 C) (condU u4_5 (seqU (u4_6 C) (retU)) (skipU))) (seqU (u4_7 C) (seqU (seqU (u4_8 C) (condU u4_9 (seqU (u4_10 C) (retU)) (skipU))) (seqU (u4_11 C) (seqU (seqU (u4_12 C) (condU u4_13 (seqU (u4_14 C) (seqU (u4_15 C) (condU u4_16 (seqU (u4_17 C) (retU)) (skipU)))) (skipU))) (seqU (u4_18 C) (seqU (u4_19 C) (seqU (u4_20 C) (seqU (u4_21 C) (seqU (u4_22 C) (seqU (u4_23 C) (retU)))))))))))))
def u4 : Fu := fun C n args S => u4b C n ((fu16 0 1 2 3 8 9 10 12 13 14 15 17 25 41 42 45).ent (argU args)) S fun o v S => exU o (u4r v S) (fun _ => .no) (u4r v S)
/-! assayer/assayerlaw27.DiskMoves -/
def u5_0 (C : CU) := m18 fun a c d e f g h i j k l m o p q r s t S κ =>
 κ a c d e (.t false) g h i j k l m o p q r s t S
def u5_1 (C : CU) := m18 fun a c d e f g h i j k l m o p q r s t S κ =>
 uCall C 14 [] S fun v0 S =>
 uNot v0 S fun v1 S =>
 κ a c d e f g h i j k l m o v1 q r s t S
def u5_2 := k18 fun a c d e f g h i j k l m o p q r s t => p
def u5_3 (C : CU) := m18 fun a c d e f g h i j k l m o p q r s t S κ =>
 κ a c d e (.t false) g h i j k l m o p q r s t S
def u5_4 (C : CU) := m18 fun a c d e f g h i j k l m o p q r s t S κ =>
 uLen false a S fun v0 S =>
 uCmp (fun a b => ltN b a) .gtr v0 (.n 40) S fun v1 S =>
 eT v1 fun b => cn b
 (κ a c d e f g h i j k l m o p (.t true) r s t S)
 (uLen false c S fun v2 S =>
 uCmp (fun a b => ltN b a) .gtr v2 (.n 40) S fun v3 S =>
 κ a c d e f g h i j k l m o p v3 r s t S)
def u5_5 := k18 fun a c d e f g h i j k l m o p q r s t => q
def u5_6 (C : CU) := m18 fun a c d e f g h i j k l m o p q r s t S κ =>
 κ a c d e (.t true) g h i j k l m o p q r s t S
def u5_7 (C : CU) := m18 fun a c d e f g h i j k l m o p q r s t S κ =>
 uCall C 15 [(.n 200)] S fun v0 S =>
 κ a c d e f v0 h i j k l m o p q r s t S
def u5_8 (C : CU) := m18 fun a c d e f g h i j k l m o p q r s t S κ =>
 uCall C 17 [g, (.s [120]), a] S fun v0 S =>
 uEq true .neq v0 (.n 0) S fun v1 S =>
 eT v1 fun b => cn b
 (κ a c d e f g h i j k l m o p q (.t true) s t S)
 (uCall C 17 [g, (.s [121]), c] S fun v2 S =>
 uEq true .neq v2 (.n 0) S fun v3 S =>
 eT v3 fun b => cn b
 (κ a c d e f g h i j k l m o p q (.t true) s t S)
 (uCall C 18 [g, (.s [121])] S fun v4 S =>
 uEq true .neq v4 (.n 0) S fun v5 S =>
 κ a c d e f g h i j k l m o p q v5 s t S))
def u5_9 := k18 fun a c d e f g h i j k l m o p q r s t => r
def u5_10 (C : CU) := m18 fun a c d e f g h i j k l m o p q r s t S κ =>
 κ a c d e (.t false) g h i j k l m o p q r s t S
def u5_11 (C : CU) := m18 fun a c d e f g h i j k l m o p q r s t S κ =>
 eT d fun b => cn b
 (uCall C 18 [g, (.s [120])] S fun v0 S =>
 uEq true .neq v0 (.n 0) S fun v1 S =>
 κ a c d e f g h i j k l m o p q r v1 t S)
 (κ a c d e f g h i j k l m o p q r (.t false) t S)
def u5_12 := k18 fun a c d e f g h i j k l m o p q r s t => s
def u5_13 (C : CU) := m18 fun a c d e f g h i j k l m o p q r s t S κ =>
 κ a c d e (.t false) g h i j k l m o p q r s t S
def u5_14 (C : CU) := m18 fun a c d e f g h i j k l m o p q r s t S κ =>
 uCall C 21 [g, (.s [120]), (.s [121])] S fun v0 S =>
 κ a c d e f g v0 i j k l m o p q r s t S
def u5_15 (C : CU) := m18 fun a c d e f g h i j k l m o p q r s t S κ =>
 uCall C 23 [g] S fun v0 S =>
 κ a c d e f g h v0 j k l m o p q r s t S
def u5_16 (C : CU) := m18 fun a c d e f g h i j k l m o p q r s t S κ =>
 uCall C 24 [g] S fun v0 S =>
 κ a c d e f g h i v0 k l m o p q r s t S
def u5_17 (C : CU) := m18 fun a c d e f g h i j k l m o p q r s t S κ =>
 uCvI .i64 e S fun v0 S =>
 uCall C 22 [g, v0] S fun v1 S =>
 κ a c d e f g h i j k l m o p q r s t S
def u5_18 (C : CU) := m18 fun a c d e f g h i j k l m o p q r s t S κ =>
 uCall C 19 [g] S fun v0 S =>
 κ a c d e f g h i j k l m o p q r s t S
def u5_19 (C : CU) := m18 fun a c d e f g h i j k l m o p q r s t S κ =>
 uCall C 20 [g, (.s [121])] S fun v0 S =>
 uExt 0 v0 S fun v1 S =>
 uExt 1 v0 S fun v2 S =>
 κ a c d e f g h i j v1 v2 m o p q r s t S
def u5_20 (C : CU) := m18 fun a c d e f g h i j k l m o p q r s t S κ =>
 uCall C 20 [g, (.s [120])] S fun v0 S =>
 uExt 0 v0 S fun v1 S =>
 uExt 1 v0 S fun v2 S =>
 κ a c d e f g h i j k l v2 o p q r s t S
def u5_21 (C : CU) := m18 fun a c d e f g h i j k l m o p q r s t S κ =>
 uCvBS a S fun v0 S =>
 κ a c d e f g h i j k l m v0 p q r s t S
def u5_22 (C : CU) := m18 fun a c d e f g h i j k l m o p q r s t S κ =>
 uNot d S fun v0 S =>
 κ a c d e f g h i j k l m o p q r s v0 S
def u5_23 := k18 fun a c d e f g h i j k l m o p q r s t => t
def u5_24 (C : CU) := m18 fun a c d e f g h i j k l m o p q r s t S κ =>
 uLen false a S fun v0 S =>
 uCvI .i64 e S fun v1 S =>
 uMM false [v0, v1] S fun v2 S =>
 uSlV 1 a none (some v2) none S fun v3 S =>
 uCvBS v3 S fun v4 S =>
 κ a c d e f g h i j k l m v4 p q r s t S
def u5_25 (C : CU) := m18 fun a c d e f g h i j k l m o p q r s t S κ =>
 uEq false .eql h (.n 0) S fun v0 S =>
 eT v0 fun b => cn b
 (uLen false a S fun v1 S =>
 uSub (.n 200) v1 S fun v2 S =>
 uEq false .eql i v2 S fun v3 S =>
 eT v3 fun b => cn b
 (uLen false j S fun v4 S =>
 uEq false .eql v4 (.n 1) S fun v5 S =>
 eT v5 fun b => cn b
 (uIad 1 j (.n 0) S fun v6 S =>
 uLd none v6 S fun v7 S =>
 uEq false .eql v7 (.s [121]) S fun v8 S =>
 eT v8 fun b => cn b
 (uEq false .eql l (.n 0) S fun v9 S =>
 eT v9 fun b => cn b
 (uCvBS k S fun v10 S =>
 uEq false .eql v10 o S fun v11 S =>
 eT v11 fun b => cn b
 (uEq false .eql m (.n 15) S fun v12 S =>
 eT v12 fun b => cn b
 (uCall C 21 [g, (.s [121]), (.s [121])] S fun v13 S =>
 uEq false .eql v13 (.n 0) S fun v14 S =>
 κ a c d e v14 g h i j k l m o p q r s t S)
 (κ a c d e (.t false) g h i j k l m o p q r s t S))
 (κ a c d e (.t false) g h i j k l m o p q r s t S))
 (κ a c d e (.t false) g h i j k l m o p q r s t S))
 (κ a c d e (.t false) g h i j k l m o p q r s t S))
 (κ a c d e (.t false) g h i j k l m o p q r s t S))
 (κ a c d e (.t false) g h i j k l m o p q r s t S))
 (κ a c d e (.t false) g h i j k l m o p q r s t S)
def u5r (v : W18) (S : FAW) : RU := W18.rec (motive := fun _ => RU) (fun a c d e f g h i j k l m o p q r s t => .ok f S) v
def u5b (C : CU) (n : Nat) : CdU W18 := seqU (u5_0 C) (seqU (seqU (u5_1 C) (condU u5_2 (seqU (u5_3 C) (retU)) (skipU))) (seqU (seqU (u5_4 C) (condU u5_5 (seqU (u5_6 C) (retU)) (skipU))) (seqU (u5_7 C) (seqU (seqU (u5_8 C) (condU u5_9 (seqU (u5_10 C) (retU)) (skipU))) (seqU (seqU (u5_11 C) (condU u5_12 (seqU (u5_13 C) (retU)) (skipU))) (seqU (u5_14 C) (seqU (u5_15 C) (seqU (u5_16 C) (seqU (u5_17 C) (seqU (u5_18 C) (seqU (u5_19 C) (seqU (u5_20 C) (seqU (u5_21 C) (seqU (seqU (u5_22 C) (condU u5_23 (u5_24 C) (skipU))) (seqU (u5_25 C) (retU))))))))))))))))
def u5 : Fu := fun C n args S => u5b C n ((fu18 0 1 2 3 8 9 10 11 12 13 14 16 17 19 27 43 49 75).ent (argU args)) S fun o v S => exU o (u5r v S) (fun _ => .no) (u5r v S)
/-! assayer/assayerlaw27.DiskFull -/
def u6_0 (C : CU) := m17 fun a c d e f g h i j k l m o p q r s S κ =>
 κ a c (.t false) e f g h i j k l m o p q r s S
def u6_1 (C : CU) := m17 fun a c d e f g h i j k l m o p q r s S κ =>
 uCall C 14 [] S fun v0 S =>
 uNot v0 S fun v1 S =>
 κ a c d e f g h i j k v1 m o p q r s S
def u6_2 := k17 fun a c d e f g h i j k l m o p q r s => l
def u6_3 (C : CU) := m17 fun a c d e f g h i j k l m o p q r s S κ =>
 κ a c (.t false) e f g h i j k l m o p q r s S
def u6_4 (C : CU) := m17 fun a c d e f g h i j k l m o p q r s S κ =>
 uLen false c S fun v0 S =>
 uCmp (fun a b => ltN b a) .gtr v0 (.n 20) S fun v1 S =>
 κ a c d e f g h i j k l v1 o p q r s S
def u6_5 := k17 fun a c d e f g h i j k l m o p q r s => m
def u6_6 (C : CU) := m17 fun a c d e f g h i j k l m o p q r s S κ =>
 κ a c (.t true) e f g h i j k l m o p q r s S
def u6_7 (C : CU) := m17 fun a c d e f g h i j k l m o p q r s S κ =>
 uCvI .i64 a S fun v0 S =>
 uCall C 15 [v0] S fun v1 S =>
 κ a c d v1 f g h i j k l m o p q r s S
def u6_8 (C : CU) := m17 fun a c d e f g h i j k l m o p q r s S κ =>
 uCvI .i64 a S fun v0 S =>
 κ a c d e v0 g h i j k l m o p q r s S
def u6_9 (C : CU) := m17 fun a c d e f g h i j k l m o p q r s S κ =>
 κ a c d e f (.n 0) h i j k l m o p q r s S
def u6_10 (C : CU) := m17 fun a c d e f g h i j k l m o p q r s S κ =>
 uLen false c S fun v0 S =>
 uCmp ltN .lss g v0 S fun v1 S =>
 κ a c d e f g h i j k l m v1 p q r s S
def u6_11 := k17 fun a c d e f g h i j k l m o p q r s => o
def u6_12 (C : CU) := m17 fun a c d e f g h i j k l m o p q r s S κ =>
 uIad 1 c g S fun v0 S =>
 uLd none v0 S fun v1 S =>
 uQuo false .rem v1 (.b 50) S fun v2 S =>
 uCvI .i64 v2 S fun v3 S =>
 κ a c d e f g v3 i j k l m o p q r s S
def u6_13 (C : CU) := m17 fun a c d e f g h i j k l m o p q r s S κ =>
 uIad 1 c g S fun v0 S59 =>
 uLd none v0 S59 fun v1 S60 =>
 uCvI .i64 v1 S60 fun v2 S61 =>
 uMksF 5 1 1 [(.b 0)] h h S61 fun v3 S62 =>
 uLd none v0 S62 fun u _ => veqU u v1
 (uCall C 25 [v2] S62 fun v5 S64 =>
 rowU2 S64 S62 v3
 (uCall C 17 [e, v5, v3] S64 fun v6 S65 =>
 κ a c d e f g h v6 j k l m o p q r s S65))
def u6_14 (C : CU) := m17 fun a c d e f g h i j k l m o p q r s S κ =>
 uCmp (fun a b => ltN b a) .gtr h f S fun v0 S =>
 κ a c d e f g h i j k l m o v0 q r s S
def u6_15 := k17 fun a c d e f g h i j k l m o p q r s => p
def u6_16 (C : CU) := m17 fun a c d e f g h i j k l m o p q r s S κ =>
 uEq true .neq i (.n 17) S fun v0 S =>
 κ a c d e f g h i j k l m o p v0 r s S
def u6_17 := k17 fun a c d e f g h i j k l m o p q r s => q
def u6_18 (C : CU) := m17 fun a c d e f g h i j k l m o p q r s S κ =>
 κ a c (.t false) e f g h i j k l m o p q r s S
def u6_19 (C : CU) := m17 fun a c d e f g h i j k l m o p q r s S κ =>
 uEq true .neq i (.n 0) S fun v0 S =>
 κ a c d e f g h i j k l m o p q v0 s S
def u6_20 := k17 fun a c d e f g h i j k l m o p q r s => r
def u6_21 (C : CU) := m17 fun a c d e f g h i j k l m o p q r s S κ =>
 κ a c (.t false) e f g h i j k l m o p q r s S
def u6_22 (C : CU) := m17 fun a c d e f g h i j k l m o p q r s S κ =>
 uSub f h S fun v0 S =>
 κ a c d e v0 g h i j k l m o p q r s S
def u6_23 (C : CU) := m17 fun a c d e f g h i j k l m o p q r s S κ =>
 uCall C 23 [e] S fun v0 S =>
 uEq true .neq v0 f S fun v1 S =>
 κ a c d e f g h i j k l m o p q r v1 S
def u6_24 := k17 fun a c d e f g h i j k l m o p q r s => s
def u6_25 (C : CU) := m17 fun a c d e f g h i j k l m o p q r s S κ =>
 κ a c (.t false) e f g h i j k l m o p q r s S
def u6_26 (C : CU) := m17 fun a c d e f g h i j k l m o p q r s S κ =>
 uAdd g (.n 1) S fun v0 S =>
 κ a c d e f v0 h i j k l m o p q r s S
def u6_27 (C : CU) (n : Nat) : CdU W17 := seqU (seqU (u6_10 C) (condU u6_11 (skipU) (exitU 0))) (seqU (blockU 1 (seqU (u6_12 C) (seqU (u6_13 C) (seqU (seqU (u6_14 C) (condU u6_15 (seqU (u6_16 C) (condU u6_17 (seqU (u6_18 C) (retU)) (skipU))) (seqU (u6_19 C) (condU u6_20 (seqU (u6_21 C) (retU)) (u6_22 C))))) (seqU (u6_23 C) (condU u6_24 (seqU (u6_25 C) (retU)) (skipU))))))) (u6_26 C))
def u6_28 (C : CU) := m17 fun a c d e f g h i j k l m o p q r s S κ =>
 κ a c d e f g h i .np k l m o p q r s S
def u6_29 (C : CU) := m17 fun a c d e f g h i j k l m o p q r s S κ =>
 uCall C 20 [j, (.s [97])] S fun v0 S =>
 uExt 0 v0 S fun v1 S =>
 uExt 1 v0 S fun v2 S =>
 κ a c d e f g h i j v2 l m o p q r s S
def u6_30 (C : CU) := m17 fun a c d e f g h i j k l m o p q r s S κ =>
 uEq false .eql k (.n 1) S fun v0 S =>
 eT v0 fun b => cn b
 (uCall C 17 [j, (.s [97]), .nl] S fun v1 S =>
 uEq false .eql v1 (.n 1) S fun v2 S =>
 eT v2 fun b => cn b
 (uCall C 18 [j, (.s [97])] S fun v3 S =>
 uEq false .eql v3 (.n 1) S fun v4 S =>
 eT v4 fun b => cn b
 (uCall C 21 [j, (.s [97]), (.s [98])] S fun v5 S =>
 uEq false .eql v5 (.n 1) S fun v6 S =>
 eT v6 fun b => cn b
 (uCall C 26 [j, (.s [97])] S fun v7 S =>
 uEq false .eql v7 (.n 1) S fun v8 S =>
 eT v8 fun b => cn b
 (uCall C 23 [j] S fun v9 S =>
 uEq false .eql v9 (.n 0) S fun v10 S =>
 eT v10 fun b => cn b
 (uCall C 24 [j] S fun v11 S =>
 uLen false v11 S fun v12 S =>
 uEq false .eql v12 (.n 0) S fun v13 S =>
 eT v13 fun b => cn b
 (uCall C 27 [j] S fun v14 S =>
 uNot v14 S fun v15 S =>
 eT v15 fun b => cn b
 (uCall C 28 [j] S fun v16 S =>
 uEqN 0 false v16 .np S fun v17 S =>
 κ a c v17 e f g h i j k l m o p q r s S)
 (κ a c (.t false) e f g h i j k l m o p q r s S))
 (κ a c (.t false) e f g h i j k l m o p q r s S))
 (κ a c (.t false) e f g h i j k l m o p q r s S))
 (κ a c (.t false) e f g h i j k l m o p q r s S))
 (κ a c (.t false) e f g h i j k l m o p q r s S))
 (κ a c (.t false) e f g h i j k l m o p q r s S))
 (κ a c (.t false) e f g h i j k l m o p q r s S))
 (κ a c (.t false) e f g h i j k l m o p q r s S)
def u6r (v : W17) (S : FAW) : RU := W17.rec (motive := fun _ => RU) (fun a c d e f g h i j k l m o p q r s => .ok d S) v
def u6b (C : CU) (n : Nat) : CdU W17 := seqU (u6_0 C) (seqU (seqU (u6_1 C) (condU u6_2 (seqU (u6_3 C) (retU)) (skipU))) (seqU (seqU (u6_4 C) (condU u6_5 (seqU (u6_6 C) (retU)) (skipU))) (seqU (u6_7 C) (seqU (u6_8 C) (seqU (seqU (u6_9 C) (blockU 0 (loopU n (u6_27 C n)))) (seqU (u6_28 C) (seqU (u6_29 C) (seqU (u6_30 C) (retU)))))))))
def u6 : Fu := fun C n args S => u6b C n ((fu17 0 1 4 5 6 7 8 9 10 12 14 17 26 47 49 51 58).ent (argU args)) S fun o v S => exU o (u6r v S) (fun _ => .no) (u6r v S)
/-! assayer/assayerlaw27.begun -/
def u14_0 (C : CU) := m8 fun a c d e f g h i S κ =>
 κ (.t false) c d e f g h i S
def u14_1 (C : CU) := m8 fun a c d e f g h i S κ =>
 uCall C 15 [(.n 20)] S fun v0 S =>
 κ a v0 d e f g h i S
def u14_2 (C : CU) := m8 fun a c d e f g h i S κ =>
 uEqN 0 false c .np S fun v0 S =>
 eT v0 fun b => cn b
 (κ a c d e f g h (.t true) S)
 (uLitF 5 1 [(.b 0)] 3 [(0, 1, (.b 1)), (1, 1, (.b 2)), (2, 1, (.b 3))] S fun v1 S =>
 uCall C 17 [c, (.s [97]), v1] S fun v2 S =>
 uEq true .neq v2 (.n 0) S fun v3 S =>
 κ a c d e f g h v3 S)
def u14_3 := k8 fun a c d e f g h i => i
def u14_4 (C : CU) := m8 fun a c d e f g h i S κ =>
 κ (.t false) c d e f g h i S
def u14_5 (C : CU) := m8 fun a c d e f g h i S κ =>
 uCall C 18 [c, (.s [97])] S fun v0 S =>
 κ a c v0 e f g h i S
def u14_6 (C : CU) := m8 fun a c d e f g h i S κ =>
 uLitF 5 1 [(.b 0)] 2 [(0, 1, (.b 4)), (1, 1, (.b 5))] S fun v0 S =>
 uCall C 17 [c, (.s [97]), v0] S fun v1 S =>
 κ a c d v1 f g h i S
def u14_7 (C : CU) := m8 fun a c d e f g h i S κ =>
 uCall C 22 [c, (.n 1)] S fun v0 S =>
 κ a c d e f g h i S
def u14_8 (C : CU) := m8 fun a c d e f g h i S κ =>
 uCall C 27 [c] S fun v0 S =>
 κ a c d e v0 g h i S
def u14_9 (C : CU) := m8 fun a c d e f g h i S κ =>
 uCall C 19 [c] S fun v0 S =>
 κ a c d e f g h i S
def u14_10 (C : CU) := m8 fun a c d e f g h i S κ =>
 uCall C 20 [c, (.s [97])] S fun v0 S =>
 uExt 0 v0 S fun v1 S =>
 uExt 1 v0 S fun v2 S =>
 κ a c d e f v1 v2 i S
def u14_11 (C : CU) := m8 fun a c d e f g h i S κ =>
 uEq false .eql d (.n 0) S fun v0 S =>
 eT v0 fun b => cn b
 (uEq false .eql e (.n 0) S fun v1 S =>
 eT v1 fun b => cn b
 (eT f fun b => cn b
 (uEq false .eql h (.n 0) S fun v2 S =>
 eT v2 fun b => cn b
 (uCvBS g S fun v3 S =>
 uEq false .eql v3 (.s [1, 2, 3, 4]) S fun v4 S =>
 eT v4 fun b => cn b
 (uCall C 23 [c] S fun v5 S =>
 uEq false .eql v5 (.n 16) S fun v6 S =>
 eT v6 fun b => cn b
 (uCall C 24 [c] S fun v7 S =>
 uLen false v7 S fun v8 S =>
 uEq false .eql v8 (.n 1) S fun v9 S =>
 κ v9 c d e f g h i S)
 (κ (.t false) c d e f g h i S))
 (κ (.t false) c d e f g h i S))
 (κ (.t false) c d e f g h i S))
 (κ (.t false) c d e f g h i S))
 (κ (.t false) c d e f g h i S))
 (κ (.t false) c d e f g h i S)
def u14r (v : W8) (S : FAW) : RU := W8.rec (motive := fun _ => RU) (fun a c d e f g h i => .ok a S) v
def u14b (C : CU) (n : Nat) : CdU W8 := seqU (u14_0 C) (seqU (u14_1 C) (seqU (seqU (u14_2 C) (condU u14_3 (seqU (u14_4 C) (retU)) (skipU))) (seqU (u14_5 C) (seqU (u14_6 C) (seqU (u14_7 C) (seqU (u14_8 C) (seqU (u14_9 C) (seqU (u14_10 C) (seqU (u14_11 C) (retU))))))))))
def u14 : Fu := fun C n args S => u14b C n ((fu8 0 1 2 3 4 5 6 15).ent (argU args)) S fun o v S => exU o (u14r v S) (fun _ => .no) (u14r v S)
/-! assayer/disk.New -/
def u15_0 (C : CU) := m2 fun a c S κ =>
 κ a .np S
def u15_1 (C : CU) := m2 fun a c S κ =>
 uMM true [a, (.n 0)] S fun v0 S =>
 uMM false [v0, (.n 60000)] S fun v1 S =>
 uMkm none S fun v2 S =>
 uBuildF [(.n 0), .nm, (.t false), (.n 0), (.n 0), (.t false)] [(0, 1, v1), (1, 1, v2)] S fun v3 S =>
 uBox 78 6 v3 S fun v4 S =>
 κ a v4 S
def u15r (v : W2) (S : FAW) : RU := W2.rec (motive := fun _ => RU) (fun a c => .ok c S) v
def u15b (C : CU) (n : Nat) : CdU W2 := seqU (u15_0 C) (seqU (u15_1 C) (retU))
def u15 : Fu := fun C n args S => u15b C n ((fu2 0 2).ent (argU args)) S fun o v S => exU o (u15r v S) (fun _ => .no) (u15r v S)
/-! (*assayer/disk.Disk).Arm -/
def u16_0 (C : CU) := m4 fun a c d e S κ =>
 uEqN 0 true a .np S fun v0 S =>
 κ a c d v0 S
def u16_1 := k4 fun a c d e => e
def u16_2 (C : CU) := m4 fun a c d e S κ =>
 uCmp (fun a b => Nat.ble b a) .geq c (.n 0) S fun v0 S =>
 uNilc a S fun v1 S =>
 uFad 2 v1 S fun v2 S =>
 uSt 1 v2 v0 S fun v3 S =>
 uNilc a S fun v4 S =>
 uFad 3 v4 S fun v5 S =>
 uSt 1 v5 c S fun v6 S =>
 uNilc a S fun v7 S =>
 uFad 4 v7 S fun v8 S =>
 uSt 1 v8 d S fun v9 S =>
 κ a c d e S
def u16r (v : W4) (S : FAW) : RU := W4.rec (motive := fun _ => RU) (fun a c d e => .ok (.u []) S) v
def u16b (C : CU) (n : Nat) : CdU W4 := seqU (u16_0 C) (condU u16_1 (u16_2 C) (skipU))
def u16 : Fu := fun C n args S => u16b C n ((fu4 0 1 2 7).ent (argU args)) S fun o v S => exU o (u16r v S) (fun _ => .no) (u16r v S)
/-! (*assayer/disk.Disk).Append -/
def u17_0 (C : CU) := m11 fun a c d e f g h i j k l S κ =>
 uBox 23 1 a S fun v0 S =>
 uBox 9 1 c S fun v1 S =>
 uBox 28 1 d S fun v2 S =>
 κ a c d v0 v1 v2 (.n 0) i j k l S
def u17_1 (C : CU) := m11 fun a c d e f g h i j k l S κ =>
 uLd none e S fun v0 S =>
 uCall C 49 [v0] S fun v1 S =>
 κ a c d e f g h v1 j k l S
def u17_2 (C : CU) := m11 fun a c d e f g h i j k l S κ =>
 uEq true .neq i (.n 0) S fun v0 S =>
 κ a c d e f g h i j v0 l S
def u17_3 := k11 fun a c d e f g h i j k l => k
def u17_4 (C : CU) := m11 fun a c d e f g h i j k l S κ =>
 κ a c d e f g i i j k l S
def u17_5 (C : CU) := m11 fun a c d e f g h i j k l S κ =>
 uLd none g S fun v0 S =>
 uLen false v0 S fun v1 S =>
 uLd none e S fun v2 S =>
 uCall C 23 [v2] S fun v3 S =>
 uCmp (fun a b => ltN b a) .gtr v1 v3 S fun v4 S =>
 uLd none g S fun u _ => veqU u v0
 (κ a c d e f g h i j k v4 S)
def u17_6 := k11 fun a c d e f g h i j k l => l
def u17_7 (C : CU) := m11 fun a c d e f g h i j k l S κ =>
 κ a c d e f g (.n 17) i j k l S
def u17_8 (C : CU) := m11 fun a c d e f g h i j k l S κ =>
 uMkf 50 [] [e, f, g] S fun v0 S =>
 κ a c d e f g h i v0 k l S
def u17_9 (C : CU) := m11 fun a c d e f g h i j k l S κ =>
 uLd none e S fun v0 S =>
 uCall C 52 [v0, j, j] S fun v1 S =>
 κ a c d e f g v1 i j k l S
def u17r (v : W11) (S : FAW) : RU := W11.rec (motive := fun _ => RU) (fun a c d e f g h i j k l => .ok h S) v
def u17b (C : CU) (n : Nat) : CdU W11 := seqU (u17_0 C) (seqU (seqU (u17_1 C) (seqU (u17_2 C) (condU u17_3 (seqU (u17_4 C) (retU)) (skipU)))) (seqU (seqU (u17_5 C) (condU u17_6 (seqU (u17_7 C) (retU)) (skipU))) (seqU (u17_8 C) (seqU (u17_9 C) (retU)))))
def u17 : Fu := fun C n args S => u17b C n ((fu11 0 1 2 3 4 5 6 7 8 12 18).ent (argU args)) S fun o v S => exU o (u17r v S) (fun _ => .no) (u17r v S)
/-! (*assayer/disk.Disk).Sync -/
def u18_0 (C : CU) := m7 fun a c d e f g h S κ =>
 uBox 23 1 a S fun v0 S =>
 uBox 9 1 c S fun v1 S =>
 κ a c v0 v1 (.n 0) g h S
def u18_1 (C : CU) := m7 fun a c d e f g h S κ =>
 uLd none d S fun v0 S =>
 uLd none e S fun v1 S =>
 uCall C 53 [v0, v1] S fun v2 S =>
 κ a c d e f v2 h S
def u18_2 (C : CU) := m7 fun a c d e f g h S κ =>
 uEq true .neq g (.n 0) S fun v0 S =>
 κ a c d e f g v0 S
def u18_3 := k7 fun a c d e f g h => h
def u18_4 (C : CU) := m7 fun a c d e f g h S κ =>
 κ a c d e g g h S
def u18_5 (C : CU) := m7 fun a c d e f g h S κ =>
 uLd none d S fun v0 S =>
 uMkf 54 [] [d, e] S fun v1 S =>
 uCall C 52 [v0, v1, (.f 55 [] [])] S fun v2 S =>
 κ a c d e v2 g h S
def u18r (v : W7) (S : FAW) : RU := W7.rec (motive := fun _ => RU) (fun a c d e f g h => .ok f S) v
def u18b (C : CU) (n : Nat) : CdU W7 := seqU (u18_0 C) (seqU (seqU (u18_1 C) (seqU (u18_2 C) (condU u18_3 (seqU (u18_4 C) (retU)) (skipU)))) (seqU (u18_5 C) (retU)))
def u18 : Fu := fun C n args S => u18b C n ((fu7 0 1 2 3 4 5 10).ent (argU args)) S fun o v S => exU o (u18r v S) (fun _ => .no) (u18r v S)
/-! (*assayer/disk.Disk).Read -/
def u20_0 (C : CU) := m6 fun a c d e f g S κ =>
 κ a c .nl (.n 0) f g S
def u20_1 (C : CU) := m6 fun a c d e f g S κ =>
 uCall C 53 [a, c] S fun v0 S =>
 κ a c d e v0 g S
def u20_2 (C : CU) := m6 fun a c d e f g S κ =>
 uEq true .neq f (.n 0) S fun v0 S =>
 κ a c d e f v0 S
def u20_3 := k6 fun a c d e f g => g
def u20_4 (C : CU) := m6 fun a c d e f g S κ =>
 κ a c .nl f f g S
def u20_5 (C : CU) := m6 fun a c d e f g S κ =>
 uGet 1 a S fun v2 S =>
 uMlkF (.one (.str)) (.a [.nl, (.n 0)]) false v2 c S fun v3 S =>
 uFld none 0 v3 S fun v4 S =>
 uCall C 56 [v4] S fun v5 S =>
 κ a c v5 (.n 0) f g S
def u20r (v : W6) (S : FAW) : RU := W6.rec (motive := fun _ => RU) (fun a c d e f g => .ok (.u [d, e]) S) v
def u20b (C : CU) (n : Nat) : CdU W6 := seqU (u20_0 C) (seqU (seqU (u20_1 C) (seqU (u20_2 C) (condU u20_3 (seqU (u20_4 C) (retU)) (skipU)))) (seqU (u20_5 C) (retU)))
def u20 : Fu := fun C n args S => u20b C n ((fu6 0 1 4 5 6 11).ent (argU args)) S fun o v S => exU o (u20r v S) (fun _ => .no) (u20r v S)
/-! (*assayer/disk.Disk).Rename -/
def u21_0 (C : CU) := m9 fun a c d e f g h i j S κ =>
 uBox 23 1 a S fun v0 S =>
 uBox 9 1 c S fun v1 S =>
 uBox 9 1 d S fun v2 S =>
 κ a c d v0 v1 v2 (.n 0) i j S
def u21_1 (C : CU) := m9 fun a c d e f g h i j S κ =>
 uLd none e S fun v0 S =>
 uLd none f S fun v1 S =>
 uCall C 53 [v0, v1] S fun v2 S =>
 κ a c d e f g h v2 j S
def u21_2 (C : CU) := m9 fun a c d e f g h i j S κ =>
 uEq true .neq i (.n 0) S fun v0 S =>
 κ a c d e f g h i v0 S
def u21_3 := k9 fun a c d e f g h i j => j
def u21_4 (C : CU) := m9 fun a c d e f g h i j S κ =>
 κ a c d e f g i i j S
def u21_5 (C : CU) := m9 fun a c d e f g h i j S κ =>
 uLd none e S fun v0 S =>
 uMkf 57 [] [e, f, g] S fun v1 S =>
 uCall C 52 [v0, v1, (.f 58 [] [])] S fun v2 S =>
 κ a c d e f g v2 i j S
def u21r (v : W9) (S : FAW) : RU := W9.rec (motive := fun _ => RU) (fun a c d e f g h i j => .ok h S) v
def u21b (C : CU) (n : Nat) : CdU W9 := seqU (u21_0 C) (seqU (seqU (u21_1 C) (seqU (u21_2 C) (condU u21_3 (seqU (u21_4 C) (retU)) (skipU)))) (seqU (u21_5 C) (retU)))
def u21 : Fu := fun C n args S => u21b C n ((fu9 0 1 2 3 4 5 6 7 12).ent (argU args)) S fun o v S => exU o (u21r v S) (fun _ => .no) (u21r v S)
/-! assayer/assayerlaw27.name -/
def u25_0 (C : CU) := m2 fun a c S κ =>
 κ a (.s []) S
def u25_1 (C : CU) := m2 fun a c S κ =>
 uLitF 9 1 [(.s [])] 3 [(0, 1, (.s [108, 111, 103])), (1, 1, (.s [110, 101, 119])), (2, 1, (.s [120]))] S fun v0 S =>
 uQuo false .rem a (.n 3) S fun v1 S =>
 uAdd v1 (.n 3) S fun v2 S =>
 uQuo false .rem v2 (.n 3) S fun v3 S =>
 uIad 1 v0 v3 S fun v4 S =>
 uLd none v4 S fun v5 S =>
 κ a v5 S
def u25r (v : W2) (S : FAW) : RU := W2.rec (motive := fun _ => RU) (fun a c => .ok c S) v
def u25b (C : CU) (n : Nat) : CdU W2 := seqU (u25_0 C) (seqU (u25_1 C) (retU))
def u25 : Fu := fun C n args S => u25b C n ((fu2 0 2).ent (argU args)) S fun o v S => exU o (u25r v S) (fun _ => .no) (u25r v S)
/-! (*assayer/disk.Disk).Remove -/
def u26_0 (C : CU) := m7 fun a c d e f g h S κ =>
 uBox 23 1 a S fun v0 S =>
 uBox 9 1 c S fun v1 S =>
 κ a c v0 v1 (.n 0) g h S
def u26_1 (C : CU) := m7 fun a c d e f g h S κ =>
 uLd none d S fun v0 S =>
 uLd none e S fun v1 S =>
 uCall C 53 [v0, v1] S fun v2 S =>
 κ a c d e f v2 h S
def u26_2 (C : CU) := m7 fun a c d e f g h S κ =>
 uEq true .neq g (.n 0) S fun v0 S =>
 κ a c d e f g v0 S
def u26_3 := k7 fun a c d e f g h => h
def u26_4 (C : CU) := m7 fun a c d e f g h S κ =>
 κ a c d e g g h S
def u26_5 (C : CU) := m7 fun a c d e f g h S κ =>
 uLd none d S fun v0 S =>
 uMkf 62 [] [d, e] S fun v1 S =>
 uCall C 52 [v0, v1, (.f 63 [] [])] S fun v2 S =>
 κ a c d e v2 g h S
def u26r (v : W7) (S : FAW) : RU := W7.rec (motive := fun _ => RU) (fun a c d e f g h => .ok f S) v
def u26b (C : CU) (n : Nat) : CdU W7 := seqU (u26_0 C) (seqU (seqU (u26_1 C) (seqU (u26_2 C) (condU u26_3 (seqU (u26_4 C) (retU)) (skipU)))) (seqU (u26_5 C) (retU)))
def u26 : Fu := fun C n args S => u26b C n ((fu7 0 1 2 3 4 5 10).ent (argU args)) S fun o v S => exU o (u26r v S) (fun _ => .no) (u26r v S)
/-! (*assayer/disk.Disk).Dead -/
def u27_0 (C : CU) := m2 fun a c S κ =>
 κ a (.t false) S
def u27_1 (C : CU) := m2 fun a c S κ =>
 uEqN 0 true a .np S fun v0 S =>
 eT v0 fun b => cn b
 (uGet 5 a S fun v3 S =>
 κ a v3 S)
 (κ a (.t false) S)
def u27r (v : W2) (S : FAW) : RU := W2.rec (motive := fun _ => RU) (fun a c => .ok c S) v
def u27b (C : CU) (n : Nat) : CdU W2 := seqU (u27_0 C) (seqU (u27_1 C) (retU))
def u27 : Fu := fun C n args S => u27b C n ((fu2 0 2).ent (argU args)) S fun o v S => exU o (u27r v S) (fun _ => .no) (u27r v S)
/-! (*assayer/disk.Disk).Copy -/
def u28_0 (C : CU) := m4 fun a c d e S κ =>
 κ a .np d e S
def u28_1 (C : CU) := m4 fun a c d e S κ =>
 uEqN 0 false a .np S fun v0 S =>
 κ a c d v0 S
def u28_2 := k4 fun a c d e => e
def u28_3 (C : CU) := m4 fun a c d e S κ =>
 κ a .np d e S
def u28_4 (C : CU) := m4 fun a c d e S κ =>
 uNilc a S fun v0 S =>
 uLd (some 6) v0 S fun v1 S =>
 uNewF 78 6 [(.n 0), .nm, (.t false), (.n 0), (.n 0), (.t false)] S fun v2 S =>
 uSt 6 v2 v1 S fun v3 S =>
 κ a c v2 e S
def u28_5 (C : CU) := m4 fun a c d e S κ =>
 uGet 1 a S fun v2 S =>
 uCall C 64 [v2] S fun v3 S =>
 uFad 1 d S fun v4 S =>
 uSt 1 v4 v3 S fun v5 S =>
 κ a c d e S
def u28_6 (C : CU) := m4 fun a c d e S κ =>
 κ a d d e S
def u28r (v : W4) (S : FAW) : RU := W4.rec (motive := fun _ => RU) (fun a c d e => .ok c S) v
def u28b (C : CU) (n : Nat) : CdU W4 := seqU (u28_0 C) (seqU (seqU (u28_1 C) (condU u28_2 (seqU (u28_3 C) (retU)) (skipU))) (seqU (u28_4 C) (seqU (u28_5 C) (seqU (u28_6 C) (retU)))))
def u28 : Fu := fun C n args S => u28b C n ((fu4 0 2 3 5).ent (argU args)) S fun o v S => exU o (u28r v S) (fun _ => .no) (u28r v S)
/-! (*assayer/disk.Disk).can -/
def u49_0 (C : CU) := m4 fun a c d e S κ =>
 κ a (.n 0) d e S
def u49_1 (C : CU) := m4 fun a c d e S κ =>
 uEqN 0 false a .np S fun v0 S =>
 κ a c v0 e S
def u49_2 := k4 fun a c d e => d
def u49_3 (C : CU) := m4 fun a c d e S κ =>
 κ a (.n 1) d e S
def u49_4 (C : CU) := m4 fun a c d e S κ =>
 uGet 5 a S fun v2 S =>
 κ a c d v2 S
def u49_5 := k4 fun a c d e => e
def u49_6 (C : CU) := m4 fun a c d e S κ =>
 κ a (.n 18) d e S
def u49_7 (C : CU) := m4 fun a c d e S κ =>
 κ a (.n 0) d e S
def u49r (v : W4) (S : FAW) : RU := W4.rec (motive := fun _ => RU) (fun a c d e => .ok c S) v
def u49b (C : CU) (n : Nat) : CdU W4 := seqU (u49_0 C) (seqU (blockU 0 (seqU (u49_1 C) (condU u49_2 (seqU (u49_3 C) (retU)) (seqU (u49_4 C) (condU u49_5 (seqU (u49_6 C) (retU)) (skipU)))))) (seqU (u49_7 C) (retU)))
def u49 : Fu := fun C n args S => u49b C n ((fu4 0 2 3 6).ent (argU args)) S fun o v S => exU o (u49r v S) (fun _ => .no) (u49r v S)
/-! (*assayer/disk.Disk).Append$1 -/
def u50_0 (C : CU) := m4 fun a c d e S κ =>
 uLd none a S fun v0 S =>
 uNilc v0 S fun v1 S =>
 uFad 1 v1 S fun v2 S =>
 uLd none v2 S fun v3 S =>
 uLd none c S fun v4 S =>
 uMlkF (.one (.str)) (.a [.nl, (.n 0)]) false v3 v4 S fun v5 S =>
 uNewF 81 2 [.nl, (.n 0)] S fun v6 S =>
 uMlkF (.one (.str)) (.a [.nl, (.n 0)]) false v3 v4 S fun u _ => veqU u v5
 (uLd none c S fun u _ => veqU u v4
 (uLd none v2 S fun u _ => veqU u v3
 (uLd none a S fun u _ => veqU u v0
 (uSt 2 v6 v5 S fun v7 S =>
 κ a c d v6 S))))
def u50_1 (C : CU) := m4 fun a c d e S κ =>
 uLd none a S fun v0 S =>
 uNilc v0 S fun v1 S =>
 uFad 1 v1 S fun v2 S =>
 uLd none v2 S fun v3 S =>
 uLd none c S fun v4 S =>
 uFad 0 e S fun v5 S =>
 uLd none v5 S fun v6 S =>
 uLd none d S fun v7 S =>
 uLitF 28 1 [.nl] 2 [(0, 1, v6), (1, 1, v7)] S fun v8 S =>
 uFad 1 e S fun v9 S =>
 uLd none v9 S fun v10 S =>
 uLd none v9 S fun u _ => veqU u v10
 (uLd none d S fun u _ => veqU u v7
 (uLd none v5 S fun u _ => veqU u v6
 (uLd none c S fun u _ => veqU u v4
 (uLd none v2 S fun u _ => veqU u v3
 (uLd none a S fun u _ => veqU u v0
 (uCall C 51 [v8] S fun v11 S =>
 uBuildF [.nl, (.n 0)] [(0, 1, v11), (1, 1, v10)] S fun v12 S =>
 uLd none v9 S fun u _ => veqU u v10
 (uLd none c S fun u _ => veqU u v4
 (uLd none v2 S fun u _ => veqU u v3
 (uLd none a S fun u _ => veqU u v0
 (uMup (.one (.str)) v3 v4 v12 S fun v13 S =>
 κ a c d e S))))))))))
def u50r (v : W4) (S : FAW) : RU := W4.rec (motive := fun _ => RU) (fun a c d e => .ok (.u []) S) v
def u50b (C : CU) (n : Nat) : CdU W4 := seqU (u50_0 C) (u50_1 C)
def u50 : Fu := fun C n args S => u50b C n ((fu4 0 1 2 3).ent (argU args)) S fun o v S => exU o (u50r v S) (fun _ => .no) (u50r v S)
/-! slices.Concat[[]byte,byte] -/
def u51_0 (C : CU) := m15 fun a c d e f g h i j k l m o p q S κ =>
 κ a .nl d e f g h i j k l m o p q S
def u51_1 (C : CU) := m15 fun a c d e f g h i j k l m o p q S κ =>
 κ a c (.n 0) e f g h i j k l m o p q S
def u51_2 (C : CU) := m15 fun a c d e f g h i j k l m o p q S κ =>
 uLen false a S fun v0 S =>
 κ a c d e f g a v0 (.n 0) k l m o p q S
def u51_3 (C : CU) := m15 fun a c d e f g h i j k l m o p q S κ =>
 uCmp ltN .lss j i S fun v0 S =>
 κ a c d e f g h i j v0 l m o p q S
def u51_4 := k15 fun a c d e f g h i j k l m o p q => k
def u51_5 (C : CU) := m15 fun a c d e f g h i j k l m o p q S κ =>
 uIad 1 h j S fun v0 S =>
 uLd none v0 S fun v1 S =>
 κ a c d v1 f g h i j k l m o p q S
def u51_6 (C : CU) := m15 fun a c d e f g h i j k l m o p q S κ =>
 uLen false e S fun v0 S =>
 uAdd d v0 S fun v1 S =>
 κ a c v1 e f g h i j k l m o p q S
def u51_7 (C : CU) := m15 fun a c d e f g h i j k l m o p q S κ =>
 uCmp ltN .lss d (.n 0) S fun v0 S =>
 κ a c d e f g h i j k v0 m o p q S
def u51_8 := k15 fun a c d e f g h i j k l m o p q => l
def u51_9 (C : CU) := m15 fun a c d e f g h i j k l m o p q S κ =>
 uNo S fun v0 S =>
 uNo S fun v1 S =>
 κ a c d e f g h i j k l m o p q S
def u51_10 (C : CU) := m15 fun a c d e f g h i j k l m o p q S κ =>
 uAdd j (.n 1) S fun v0 S =>
 κ a c d e f g h i v0 k l m o p q S
def u51_11 (C : CU) (n : Nat) : CdU W15 := seqU (u51_3 C) (seqU (condU u51_4 (skipU) (exitU 0)) (seqU (blockU 1 (seqU (u51_5 C) (seqU (u51_6 C) (seqU (u51_7 C) (condU u51_8 (u51_9 C) (skipU)))))) (u51_10 C)))
def u51_12 (C : CU) := m15 fun a c d e f g h i j k l m o p q S κ =>
 uCall C 81 [.nl, d] S fun v0 S =>
 κ a c d e v0 g h i j k l m o p q S
def u51_13 (C : CU) := m15 fun a c d e f g h i j k l m o p q S κ =>
 uLen false a S fun v0 S =>
 κ a c d e f g h i j k l a v0 (.n 0) q S
def u51_14 (C : CU) := m15 fun a c d e f g h i j k l m o p q S κ =>
 uCmp ltN .lss p o S fun v0 S =>
 κ a c d e f g h i j k l m o p v0 S
def u51_15 := k15 fun a c d e f g h i j k l m o p q => q
def u51_16 (C : CU) := m15 fun a c d e f g h i j k l m o p q S κ =>
 uIad 1 m p S fun v0 S =>
 uLd none v0 S fun v1 S =>
 κ a c d e f v1 h i j k l m o p q S
def u51_17 (C : CU) := m15 fun a c d e f g h i j k l m o p q S κ =>
 uApp 5 1 1 f g S fun v0 S =>
 κ a c d e v0 g h i j k l m o p q S
def u51_18 (C : CU) := m15 fun a c d e f g h i j k l m o p q S κ =>
 uAdd p (.n 1) S fun v0 S =>
 κ a c d e f g h i j k l m o v0 q S
def u51_19 (C : CU) (n : Nat) : CdU W15 := seqU (u51_14 C) (seqU (condU u51_15 (skipU) (exitU 2)) (seqU (blockU 3 (seqU (u51_16 C) (u51_17 C))) (u51_18 C)))
def u51_20 (C : CU) := m15 fun a c d e f g h i j k l m o p q S κ =>
 κ a f d e f g h i j k l m o p q S
def u51r (v : W15) (S : FAW) : RU := W15.rec (motive := fun _ => RU) (fun a c d e f g h i j k l m o p q => .ok c S) v
def u51b (C : CU) (n : Nat) : CdU W15 := seqU (u51_0 C) (seqU (u51_1 C) (seqU (seqU (u51_2 C) (blockU 0 (loopU n (u51_11 C n)))) (seqU (u51_12 C) (seqU (seqU (u51_13 C) (blockU 2 (loopU n (u51_19 C n)))) (seqU (u51_20 C) (retU))))))
def u51 : Fu := fun C n args S => u51b C n ((fu15 0 2 3 5 6 8 9 10 11 12 20 25 26 27 28).ent (argU args)) S fun o v S => exU o (u51r v S) (fun _ => .no) (u51r v S)
/-! (*assayer/disk.Disk).does -/
def u52_0 (C : CU) := m6 fun a c d e f g S κ =>
 κ a c d (.n 0) f g S
def u52_1 (C : CU) := m6 fun a c d e f g S κ =>
 uGet 2 a S fun v2 S =>
 eT v2 fun b => cn b
 (uGet 3 a S fun v5 S =>
 uEq false .eql v5 (.n 0) S fun v6 S =>
 κ a c d e v6 g S)
 (κ a c d e (.t false) g S)
def u52_2 := k6 fun a c d e f g => f
def u52_3 (C : CU) := m6 fun a c d e f g S κ =>
 uCallV C d [] S fun v0 S =>
 κ a c d e f g S
def u52_4 (C : CU) := m6 fun a c d e f g S κ =>
 uGet 4 a S fun v2 S =>
 uCall C 22 [a, v2] S fun v3 S =>
 κ a c d e f g S
def u52_5 (C : CU) := m6 fun a c d e f g S κ =>
 κ a c d (.n 18) f g S
def u52_6 (C : CU) := m6 fun a c d e f g S κ =>
 uGet 2 a S fun v2 S =>
 κ a c d e f v2 S
def u52_7 := k6 fun a c d e f g => g
def u52_8 (C : CU) := m6 fun a c d e f g S κ =>
 uGet 3 a S fun v2 S =>
 uSub v2 (.n 1) S fun v3 S =>
 uNilc a S fun v4 S =>
 uFad 3 v4 S fun v5 S =>
 uSt 1 v5 v3 S fun v6 S =>
 κ a c d e f g S
def u52_9 (C : CU) := m6 fun a c d e f g S κ =>
 uCallV C c [] S fun v0 S =>
 κ a c d e f g S
def u52_10 (C : CU) := m6 fun a c d e f g S κ =>
 κ a c d (.n 0) f g S
def u52r (v : W6) (S : FAW) : RU := W6.rec (motive := fun _ => RU) (fun a c d e f g => .ok e S) v
def u52b (C : CU) (n : Nat) : CdU W6 := seqU (u52_0 C) (seqU (seqU (u52_1 C) (condU u52_2 (seqU (u52_3 C) (seqU (u52_4 C) (seqU (u52_5 C) (retU)))) (skipU))) (seqU (seqU (u52_6 C) (condU u52_7 (u52_8 C) (skipU))) (seqU (u52_9 C) (seqU (u52_10 C) (retU)))))
def u52 : Fu := fun C n args S => u52b C n ((fu6 0 1 2 6 17 29).ent (argU args)) S fun o v S => exU o (u52r v S) (fun _ => .no) (u52r v S)
/-! (*assayer/disk.Disk).has -/
def u53_0 (C : CU) := m7 fun a c d e f g h S κ =>
 κ a c (.n 0) e f g h S
def u53_1 (C : CU) := m7 fun a c d e f g h S κ =>
 uCall C 49 [a] S fun v0 S =>
 κ a c d v0 f g h S
def u53_2 (C : CU) := m7 fun a c d e f g h S κ =>
 uEq true .neq e (.n 0) S fun v0 S =>
 κ a c d e f v0 h S
def u53_3 := k7 fun a c d e f g h => g
def u53_4 (C : CU) := m7 fun a c d e f g h S κ =>
 κ a c e e f g h S
def u53_5 (C : CU) := m7 fun a c d e f g h S κ =>
 uGet 1 a S fun v2 S =>
 uMlkF (.one (.str)) (.a [.nl, (.n 0)]) true v2 c S fun v3 S =>
 uExt 0 v3 S fun v4 S =>
 uExt 1 v3 S fun v5 S =>
 uNewF 81 2 [.nl, (.n 0)] S fun v6 S =>
 uSt 2 v6 v4 S fun v7 S =>
 κ a c d e v5 g h S
def u53_6 (C : CU) := m7 fun a c d e f g h S κ =>
 uNot f S fun v0 S =>
 κ a c d e f g v0 S
def u53_7 := k7 fun a c d e f g h => h
def u53_8 (C : CU) := m7 fun a c d e f g h S κ =>
 κ a c (.n 15) e f g h S
def u53_9 (C : CU) := m7 fun a c d e f g h S κ =>
 κ a c (.n 0) e f g h S
def u53r (v : W7) (S : FAW) : RU := W7.rec (motive := fun _ => RU) (fun a c d e f g h => .ok d S) v
def u53b (C : CU) (n : Nat) : CdU W7 := seqU (u53_0 C) (seqU (seqU (u53_1 C) (seqU (u53_2 C) (condU u53_3 (seqU (u53_4 C) (retU)) (skipU)))) (seqU (seqU (u53_5 C) (seqU (u53_6 C) (condU u53_7 (seqU (u53_8 C) (retU)) (skipU)))) (seqU (u53_9 C) (retU))))
def u53 : Fu := fun C n args S => u53b C n ((fu7 0 1 4 5 7 11 23).ent (argU args)) S fun o v S => exU o (u53r v S) (fun _ => .no) (u53r v S)
/-! (*assayer/disk.Disk).Sync$1 -/
def u54_0 (C : CU) := m3 fun a c d S κ =>
 uLd none a S fun v0 S =>
 uNilc v0 S fun v1 S =>
 uFad 1 v1 S fun v2 S =>
 uLd none v2 S fun v3 S =>
 uLd none c S fun v4 S =>
 uMlkF (.one (.str)) (.a [.nl, (.n 0)]) false v3 v4 S fun v5 S =>
 uNewF 81 2 [.nl, (.n 0)] S fun v6 S =>
 uMlkF (.one (.str)) (.a [.nl, (.n 0)]) false v3 v4 S fun u _ => veqU u v5
 (uLd none c S fun u _ => veqU u v4
 (uLd none v2 S fun u _ => veqU u v3
 (uLd none a S fun u _ => veqU u v0
 (uSt 2 v6 v5 S fun v7 S =>
 κ a c v6 S))))
def u54_1 (C : CU) := m3 fun a c d S κ =>
 uLd none a S fun v0 S =>
 uGet 1 v0 S fun v3 S =>
 uLd none c S fun v4 S =>
 uFad 0 d S fun v5 S =>
 uLd none v5 S fun v6 S =>
 uFad 0 d S fun v7 S =>
 uLd none v7 S fun v8 S =>
 uLen false v8 S fun v9 S =>
 uBuildF [.nl, (.n 0)] [(0, 1, v6), (1, 1, v9)] S fun v10 S =>
 uMup (.one (.str)) v3 v4 v10 S fun v11 S =>
 κ a c d S
def u54r (v : W3) (S : FAW) : RU := W3.rec (motive := fun _ => RU) (fun a c d => .ok (.u []) S) v
def u54b (C : CU) (n : Nat) : CdU W3 := seqU (u54_0 C) (u54_1 C)
def u54 : Fu := fun C n args S => u54b C n ((fu3 0 1 2).ent (argU args)) S fun o v S => exU o (u54r v S) (fun _ => .no) (u54r v S)
/-! (*assayer/disk.Disk).Sync$2 -/

def u55r (v : W0) (S : FAW) : RU := W0.rec (motive := fun _ => RU) (.ok (.u []) S) v
def u55b (C : CU) (n : Nat) : CdU W0 := skipU
def u55 : Fu := fun C n args S => u55b C n ((fu0).ent (argU args)) S fun o v S => exU o (u55r v S) (fun _ => .no) (u55r v S)
/-! slices.Clone[[]byte,byte] -/
def u56_0 (C : CU) := m3 fun a c d S κ =>
 κ a .nl d S
def u56_1 (C : CU) := m3 fun a c d S κ =>
 uEqN 1 false a .nl S fun v0 S =>
 κ a c v0 S
def u56_2 := k3 fun a c d => d
def u56_3 (C : CU) := m3 fun a c d S κ =>
 κ a .nl d S
def u56_4 (C : CU) := m3 fun a c d S κ =>
 uLitF 5 1 [(.b 0)] 0 [] S fun v0 S =>
 uApp 5 1 1 v0 a S fun v1 S =>
 κ a v1 d S
def u56r (v : W3) (S : FAW) : RU := W3.rec (motive := fun _ => RU) (fun a c d => .ok c S) v
def u56b (C : CU) (n : Nat) : CdU W3 := seqU (u56_0 C) (seqU (seqU (u56_1 C) (condU u56_2 (seqU (u56_3 C) (retU)) (skipU))) (seqU (u56_4 C) (retU)))
def u56 : Fu := fun C n args S => u56b C n ((fu3 0 2 4).ent (argU args)) S fun o v S => exU o (u56r v S) (fun _ => .no) (u56r v S)
/-! (*assayer/disk.Disk).Rename$1 -/
def u57_0 (C : CU) := m4 fun a c d e S κ =>
 uLd none a S fun v0 S =>
 uNilc v0 S fun v1 S =>
 uFad 1 v1 S fun v2 S =>
 uLd none v2 S fun v3 S =>
 uLd none c S fun v4 S =>
 uMlkF (.one (.str)) (.a [.nl, (.n 0)]) false v3 v4 S fun v5 S =>
 uNewF 81 2 [.nl, (.n 0)] S fun v6 S =>
 uMlkF (.one (.str)) (.a [.nl, (.n 0)]) false v3 v4 S fun u _ => veqU u v5
 (uLd none c S fun u _ => veqU u v4
 (uLd none v2 S fun u _ => veqU u v3
 (uLd none a S fun u _ => veqU u v0
 (uSt 2 v6 v5 S fun v7 S =>
 κ a c d v6 S))))
def u57_1 (C : CU) := m4 fun a c d e S κ =>
 uLd none a S fun v0 S =>
 uGet 1 v0 S fun v3 S =>
 uLd none c S fun v4 S =>
 uMdel (.one (.str)) v3 v4 S fun v5 S =>
 κ a c d e S
def u57_2 (C : CU) := m4 fun a c d e S κ =>
 uLd none a S fun v0 S =>
 uGet 1 v0 S fun v3 S =>
 uLd none d S fun v4 S =>
 uLd (some 2) e S fun v5 S =>
 uMup (.one (.str)) v3 v4 v5 S fun v6 S =>
 κ a c d e S
def u57r (v : W4) (S : FAW) : RU := W4.rec (motive := fun _ => RU) (fun a c d e => .ok (.u []) S) v
def u57b (C : CU) (n : Nat) : CdU W4 := seqU (u57_0 C) (seqU (u57_1 C) (u57_2 C))
def u57 : Fu := fun C n args S => u57b C n ((fu4 0 1 2 3).ent (argU args)) S fun o v S => exU o (u57r v S) (fun _ => .no) (u57r v S)
/-! (*assayer/disk.Disk).Rename$2 -/

def u58r (v : W0) (S : FAW) : RU := W0.rec (motive := fun _ => RU) (.ok (.u []) S) v
def u58b (C : CU) (n : Nat) : CdU W0 := skipU
def u58 : Fu := fun C n args S => u58b C n ((fu0).ent (argU args)) S fun o v S => exU o (u58r v S) (fun _ => .no) (u58r v S)
/-! (*assayer/disk.Disk).Remove$1 -/
def u62_0 (C : CU) := m2 fun a c S κ =>
 uLd none a S fun v0 S =>
 uGet 1 v0 S fun v3 S =>
 uLd none c S fun v4 S =>
 uMdel (.one (.str)) v3 v4 S fun v5 S =>
 κ a c S
def u62r (v : W2) (S : FAW) : RU := W2.rec (motive := fun _ => RU) (fun a c => .ok (.u []) S) v
def u62b (C : CU) (n : Nat) : CdU W2 := u62_0 C
def u62 : Fu := fun C n args S => u62b C n ((fu2 0 1).ent (argU args)) S fun o v S => exU o (u62r v S) (fun _ => .no) (u62r v S)
/-! (*assayer/disk.Disk).Remove$2 -/

def u63r (v : W0) (S : FAW) : RU := W0.rec (motive := fun _ => RU) (.ok (.u []) S) v
def u63b (C : CU) (n : Nat) : CdU W0 := skipU
def u63 : Fu := fun C n args S => u63b C n ((fu0).ent (argU args)) S fun o v S => exU o (u63r v S) (fun _ => .no) (u63r v S)
/-! maps.Clone[map[string]assayer/disk.file,string,assayer/disk.file] -/
def u64_0 (C : CU) := m3 fun a c d S κ =>
 κ a .nm d S
def u64_1 (C : CU) := m3 fun a c d S κ =>
 uEqN 2 false a .nm S fun v0 S =>
 κ a c v0 S
def u64_2 := k3 fun a c d => d
def u64_3 (C : CU) := m3 fun a c d S κ =>
 κ a .nm d S
def u64_4 (C : CU) := m3 fun a c d S κ =>
 uNo S fun v0 S =>
 uCall C 85 [v0] S fun v1 S =>
 uNo S fun v2 S =>
 κ a v2 d S
def u64r (v : W3) (S : FAW) : RU := W3.rec (motive := fun _ => RU) (fun a c d => .ok c S) v
def u64b (C : CU) (n : Nat) : CdU W3 := seqU (u64_0 C) (seqU (seqU (u64_1 C) (condU u64_2 (seqU (u64_3 C) (retU)) (skipU))) (seqU (u64_4 C) (retU)))
def u64 : Fu := fun C n args S => u64b C n ((fu3 0 2 4).ent (argU args)) S fun o v S => exU o (u64r v S) (fun _ => .no) (u64r v S)
/-! slices.Grow[[]byte,byte] -/
def u81_0 (C : CU) := m5 fun a c d e f S κ =>
 κ a c .nl e f S
def u81_1 (C : CU) := m5 fun a c d e f S κ =>
 uCmp ltN .lss c (.n 0) S fun v0 S =>
 κ a c d v0 f S
def u81_2 := k5 fun a c d e f => e
def u81_3 (C : CU) := m5 fun a c d e f S κ =>
 uNo S fun v0 S =>
 uNo S fun v1 S =>
 κ a c d e f S
def u81_4 (C : CU) := m5 fun a c d e f S κ =>
 uCapn a S fun v0 S =>
 uLen false a S fun v1 S =>
 uSub v0 v1 S fun v2 S =>
 uSub c v2 S fun v3 S =>
 κ a v3 d e f S
def u81_5 (C : CU) := m5 fun a c d e f S κ =>
 uCmp (fun a b => ltN b a) .gtr c (.n 0) S fun v0 S =>
 κ a c d e v0 S
def u81_6 := k5 fun a c d e f => f
def u81_7 (C : CU) := m5 fun a c d e f S κ =>
 uCapn a S fun v0 S =>
 uSlV 1 a none (some v0) none S fun v1 S =>
 uAppzF 5 1 1 [(.b 0)] v1 c S fun v2 S =>
 uLen false a S fun v3 S =>
 uSlV 1 v2 none (some v3) none S fun v4 S =>
 κ v4 c d e f S
def u81_8 (C : CU) := m5 fun a c d e f S κ =>
 κ a c a e f S
def u81r (v : W5) (S : FAW) : RU := W5.rec (motive := fun _ => RU) (fun a c d e f => .ok d S) v
def u81b (C : CU) (n : Nat) : CdU W5 := seqU (u81_0 C) (seqU (seqU (u81_1 C) (condU u81_2 (u81_3 C) (skipU))) (seqU (seqU (u81_4 C) (seqU (u81_5 C) (condU u81_6 (u81_7 C) (skipU)))) (seqU (u81_8 C) (retU))))
def u81 : Fu := fun C n args S => u81b C n ((fu5 0 1 4 6 16).ent (argU args)) S fun o v S => exU o (u81r v S) (fun _ => .no) (u81r v S)
end
end Go.Proofs.Ythclmjelknibhaa.Ev
