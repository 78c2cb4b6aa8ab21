/- Functions of the program, each told by what goes on behind each step: printed by a program of ours. -/
import Derived.Test.YtgejdfhfgphcbaaMsgX
import Derived.Test.YtgejdfhfgphcbaaMsgW
namespace Go.Proofs.Ytgejdfhfgphcbaa.Ev
open Go Go.RowKit
set_option linter.unusedVariables false
set_option linter.constructorNameAsVariable false
noncomputable section
/-! assayer/assayerlaw21.MsgTurned -/
def u3_0 (C : CU) := m19 fun a c d e f g h i j k l m o p q r s t w S κ =>
 uBox 23 4 c S fun v0 S =>
 κ a c d e v0 (.t false) h i j k l m o p q r s t w S
def u3_1 (C : CU) := m19 fun a c d e f g h i j k l m o p q r s t w S κ =>
 uCall C 14 [] S fun v0 S =>
 uNot v0 S fun v1 S =>
 κ a c d e f g h i j k l m o p q v1 s t w S
def u3_2 := k19 fun a c d e f g h i j k l m o p q r s t w => r
def u3_3 (C : CU) := m19 fun a c d e f g h i j k l m o p q r s t w S κ =>
 κ a c d e f (.t false) h i j k l m o p q r s t w S
def u3_4 (C : CU) := m19 fun a c d e f g h i j k l m o p q r s t w S κ =>
 uFad 0 f S fun v0 S =>
 uLd none v0 S fun v1 S =>
 uLen true v1 S fun v2 S =>
 uCmp (fun a b => ltN b a) .gtr v2 (.n 60) S fun v3 S =>
 eT v3 fun b => cn b
 (κ a c d e f g h i j k l m o p q r (.t true) t w S)
 (uLen false d S fun v4 S =>
 uCmp (fun a b => ltN b a) .gtr v4 (.n 3) S fun v5 S =>
 eT v5 fun b => cn b
 (κ a c d e f g h i j k l m o p q r (.t true) t w S)
 (uLen false e S fun v6 S =>
 uLen false d S fun v7 S =>
 uCmp ltN .lss v6 v7 S fun v8 S =>
 κ a c d e f g h i j k l m o p q r v8 t w S))
def u3_5 := k19 fun a c d e f g h i j k l m o p q r s t w => s
def u3_6 (C : CU) := m19 fun a c d e f g h i j k l m o p q r s t w S κ =>
 κ a c d e f (.t true) h i j k l m o p q r s t w S
def u3_7 (C : CU) := m19 fun a c d e f g h i j k l m o p q r s t w S κ =>
 κ a c d e f g (.n 0) i j k l m o p q r s t w S
def u3_8 (C : CU) := m19 fun a c d e f g h i j k l m o p q r s t w S κ =>
 κ a c d e f g h i j k l m o p q r s a w S
def u3_9 := k19 fun a c d e f g h i j k l m o p q r s t w => t
def u3_10 (C : CU) := m19 fun a c d e f g h i j k l m o p q r s t w S κ =>
 κ a c d e f g (.n 1) i j k l m o p q r s t w S
def u3_11 (C : CU) := m19 fun a c d e f g h i j k l m o p q r s t w S κ =>
 uLd (some 4) f S fun v0 S =>
 uCall C 15 [h, v0] S fun v1 S =>
 κ a c d e f g h v1 j k l m o p q r s t w S
def u3_12 (C : CU) := m19 fun a c d e f g h i j k l m o p q r s t w S κ =>
 κ a c d e f g h i (.n 0) k l m o p q r s t w S
def u3_13 (C : CU) := m19 fun a c d e f g h i j k l m o p q r s t w S κ =>
 uLen false d S fun v0 S =>
 uCmp ltN .lss j v0 S fun v1 S =>
 eT v1 fun b => cn b
 (uLen false i S fun v2 S =>
 uCmp (fun a b => ltN b a) .gtr v2 (.n 0) S fun v3 S =>
 κ a c d e f g h i j k l m o p q r s t v3 S)
 (κ a c d e f g h i j k l m o p q r s t (.t false) S)
def u3_14 := k19 fun a c d e f g h i j k l m o p q r s t w => w
def u3_15 (C : CU) := m19 fun a c d e f g h i j k l m o p q r s t w S κ =>
 uIad 1 d j S fun v0 S =>
 uLd none v0 S fun v1 S =>
 uCvI .i64 v1 S fun v2 S =>
 uLen false i S fun v3 S =>
 uQuo false .rem v2 v3 S fun v4 S =>
 uIad 1 e j S fun v5 S =>
 uLd none v5 S fun v6 S =>
 uIad 1 i v4 S fun v7 S =>
 uSt 1 v7 v6 S fun v8 S =>
 κ a c d e f g h i j k l m o p q r s t w S
def u3_16 (C : CU) := m19 fun a c d e f g h i j k l m o p q r s t w S κ =>
 uAdd j (.n 1) S fun v0 S =>
 κ a c d e f g h i v0 k l m o p q r s t w S
def u3_17 (C : CU) (n : Nat) : CdU W19 := seqU (seqU (u3_13 C) (condU u3_14 (skipU) (exitU 0))) (seqU (blockU 1 (u3_15 C)) (u3_16 C))
def u3_18 (C : CU) := m19 fun a c d e f g h i j k l m o p q r s t w S κ =>
 uCall C 16 [h, i] S fun v0 S =>
 uExt 0 v0 S fun v1 S =>
 uExt 1 v0 S fun v2 S =>
 uExt 2 v0 S fun v3 S =>
 uNewF 23 4 [(.s []), (.n 0), (.i .i32 0), (.t false)] S fun v4 S =>
 uSt 4 v4 v1 S fun v5 S =>
 κ a c d e f g h i j v4 v2 v3 o p q r s t w S
def u3_19 (C : CU) := m19 fun a c d e f g h i j k l m o p q r s t w S κ =>
 uCall C 17 [h, i] S fun v0 S =>
 uExt 0 v0 S fun v1 S =>
 uExt 1 v0 S fun v2 S =>
 uExt 2 v0 S fun v3 S =>
 uNewF 23 4 [(.s []), (.n 0), (.i .i32 0), (.t false)] S fun v4 S =>
 uSt 4 v4 v1 S fun v5 S =>
 κ a c d e f g h i j k l m v4 v2 v3 r s t w S
def u3_20 (C : CU) := m19 fun a c d e f g h i j k l m o p q r s t w S κ =>
 uLd (some 4) k S fun v0 S =>
 uLd (some 4) o S fun v1 S =>
 uEqA false [.str, .int .i64, .int .i32, .bl] v0 v1 S fun v2 S =>
 eT v2 fun b => cn b
 (uEq false .eql l p S fun v3 S =>
 eT v3 fun b => cn b
 (uEq false .eql m q S fun v4 S =>
 κ a c d e f v4 h i j k l m o p q r s t w S)
 (κ a c d e f (.t false) h i j k l m o p q r s t w S))
 (κ a c d e f (.t false) h i j k l m o p q r s t w S)
def u3r (v : W19) (S : FAW) : RU := W19.rec (motive := fun _ => RU) (fun a c d e f g h i j k l m o p q r s t w => .ok g S) v
def u3b (C : CU) (n : Nat) : CdU W19 := seqU (u3_0 C) (seqU (seqU (u3_1 C) (condU u3_2 (seqU (u3_3 C) (retU)) (skipU))) (seqU (seqU (u3_4 C) (condU u3_5 (seqU (u3_6 C) (retU)) (skipU))) (seqU (u3_7 C) (seqU (seqU (u3_8 C) (condU u3_9 (u3_10 C) (skipU))) (seqU (u3_11 C) (seqU (seqU (u3_12 C) (blockU 0 (loopU n (u3_17 C n)))) (seqU (u3_18 C) (seqU (u3_19 C) (seqU (u3_20 C) (retU))))))))))
def u3 : Fu := fun C n args S => u3b C n ((fu19 0 1 2 3 5 8 9 10 11 12 13 14 15 16 17 19 35 36 48).ent (argU args)) S fun o v S => exU o (u3r v S) (fun _ => .no) (u3r v S)
/-! assayer/assayerlaw21.MsgBack -/
def u4_0 (C : CU) := m16 fun a c d e f g h i j k l m o p q r S κ =>
 uBox 23 4 c S fun v0 S =>
 κ a c d e v0 (.t false) h i j k l m o p q r S
def u4_1 (C : CU) := m16 fun a c d e f g h i j k l m o p q r S κ =>
 uCall C 14 [] S fun v0 S =>
 uNot v0 S fun v1 S =>
 κ a c d e f g h i j k l m o v1 q r S
def u4_2 := k16 fun a c d e f g h i j k l m o p q r => p
def u4_3 (C : CU) := m16 fun a c d e f g h i j k l m o p q r S κ =>
 κ a c d e f (.t false) h i j k l m o p q r S
def u4_4 (C : CU) := m16 fun a c d e f g h i j k l m o p q r S κ =>
 uFad 0 f S fun v0 S =>
 uLd none v0 S fun v1 S =>
 uLen true v1 S fun v2 S =>
 uCmp (fun a b => ltN b a) .gtr v2 (.n 40) S fun v3 S =>
 eT v3 fun b => cn b
 (κ a c d e f g h i j k l m o p (.t true) r S)
 (uFad 1 f S fun v4 S =>
 uLd none v4 S fun v5 S =>
 uCmp ltN .lss v5 (.n 1) S fun v6 S =>
 eT v6 fun b => cn b
 (κ a c d e f g h i j k l m o p (.t true) r S)
 (uFad 1 f S fun v7 S =>
 uLd none v7 S fun v8 S =>
 uCmp (fun a b => ltN b a) .gtr v8 (.n 4) S fun v9 S =>
 eT v9 fun b => cn b
 (κ a c d e f g h i j k l m o p (.t true) r S)
 (uLen false d S fun v10 S =>
 uCmp (fun a b => ltN b a) .gtr v10 (.n 20) S fun v11 S =>
 κ a c d e f g h i j k l m o p v11 r S)))
def u4_5 := k16 fun a c d e f g h i j k l m o p q r => q
def u4_6 (C : CU) := m16 fun a c d e f g h i j k l m o p q r S κ =>
 κ a c d e f (.t true) h i j k l m o p q r S
def u4_7 (C : CU) := m16 fun a c d e f g h i j k l m o p q r S κ =>
 κ a c d e f g (.n 0) i j k l m o p q r S
def u4_8 (C : CU) := m16 fun a c d e f g h i j k l m o p q r S κ =>
 κ a c d e f g h i j k l m o p q a S
def u4_9 := k16 fun a c d e f g h i j k l m o p q r => r
def u4_10 (C : CU) := m16 fun a c d e f g h i j k l m o p q r S κ =>
 uFad 3 f S fun v0 S =>
 uSt 1 v0 (.t false) S fun v1 S =>
 κ a c d e f g (.n 1) i j k l m o p q r S
def u4_11 (C : CU) := m16 fun a c d e f g h i j k l m o p q r S κ =>
 uLd (some 4) f S fun v0 S =>
 uCall C 18 [h, v0] S fun v1 S =>
 κ a c d e f g h v1 j k l m o p q r S
def u4_12 (C : CU) := m16 fun a c d e f g h i j k l m o p q r S κ =>
 uLitF 5 1 [(.b 0)] 0 [] S fun v0 S =>
 uApp 5 1 1 v0 i S fun v1 S =>
 uApp 5 1 1 v1 d S fun v2 S =>
 uCall C 16 [h, v2] S fun v3 S =>
 uExt 0 v3 S fun v4 S =>
 uExt 1 v3 S fun v5 S =>
 uExt 2 v3 S fun v6 S =>
 uNewF 23 4 [(.s []), (.n 0), (.i .i32 0), (.t false)] S fun v7 S =>
 uSt 4 v7 v4 S fun v8 S =>
 κ a c d e f g h i v7 v5 v6 m o p q r S
def u4_13 (C : CU) := m16 fun a c d e f g h i j k l m o p q r S κ =>
 uLen false i S fun v0 S =>
 uCall C 19 [e, v0] S fun v1 S =>
 uSlV 1 i none (some v1) none S fun v2 S =>
 uCall C 16 [h, v2] S fun v3 S =>
 uExt 0 v3 S fun v4 S =>
 uExt 1 v3 S fun v5 S =>
 uExt 2 v3 S fun v6 S =>
 uNewF 23 4 [(.s []), (.n 0), (.i .i32 0), (.t false)] S fun v7 S =>
 uSt 4 v7 v4 S fun v8 S =>
 κ a c d e f g h i j k l v5 v6 p q r S
def u4_14 (C : CU) := m16 fun a c d e f g h i j k l m o p q r S κ =>
 uEq false .eql l (.n 0) S fun v0 S =>
 eT v0 fun b => cn b
 (uLd (some 4) j S fun v1 S =>
 uLd (some 4) f S fun v2 S =>
 uEqA false [.str, .int .i64, .int .i32, .bl] v1 v2 S fun v3 S =>
 eT v3 fun b => cn b
 (uLen false i S fun v4 S =>
 uEq false .eql k v4 S fun v5 S =>
 eT v5 fun b => cn b
 (uEq false .eql o (.n 3) S fun v6 S =>
 eT v6 fun b => cn b
 (uEq false .eql m (.n 0) S fun v7 S =>
 κ a c d e f v7 h i j k l m o p q r S)
 (κ a c d e f (.t false) h i j k l m o p q r S))
 (κ a c d e f (.t false) h i j k l m o p q r S))
 (κ a c d e f (.t false) h i j k l m o p q r S))
 (κ a c d e f (.t false) h i j k l m o p q r S)
def u4r (v : W16) (S : FAW) : RU := W16.rec (motive := fun _ => RU) (fun a c d e f g h i j k l m o p q r => .ok g S) v
def u4b (C : CU) (n : Nat) : CdU W16 := seqU (u4_0 C) (seqU (seqU (u4_1 C) (condU u4_2 (seqU (u4_3 C) (retU)) (skipU))) (seqU (seqU (u4_4 C) (condU u4_5 (seqU (u4_6 C) (retU)) (skipU))) (seqU (u4_7 C) (seqU (seqU (u4_8 C) (condU u4_9 (u4_10 C) (skipU))) (seqU (u4_11 C) (seqU (u4_12 C) (seqU (u4_13 C) (seqU (u4_14 C) (retU)))))))))
def u4 : Fu := fun C n args S => u4b C n ((fu16 0 1 2 3 5 8 9 10 11 12 13 15 16 18 37 38).ent (argU args)) S fun o v S => exU o (u4r v S) (fun _ => .no) (u4r v S)
/-! assayer/assayerlaw21.begun -/
def u14_0 (C : CU) := m5 fun a c d e f S κ =>
 κ (.t false) c d e f S
def u14_1 (C : CU) := m5 fun a c d e f S κ =>
 uBuildF [(.s []), (.n 0), (.i .i32 0), (.t false)] [(0, 1, (.s [97])), (1, 1, (.n 1)), (2, 1, (.i .i32 1))] S fun v0 S =>
 uCall C 18 [(.n 1), v0] S fun v1 S =>
 κ a v1 d e f S
def u14_2 (C : CU) := m5 fun a c d e f S κ =>
 uBuildF [(.s []), (.n 0), (.i .i32 0), (.t false)] [(0, 1, (.s [98])), (1, 1, (.n 2)), (2, 1, (.i .i32 (-1)))] S fun v0 S =>
 uCall C 18 [(.n 0), v0] S fun v1 S =>
 uCall C 16 [(.n 0), v1] S fun v2 S =>
 uExt 0 v2 S fun v3 S =>
 uExt 1 v2 S fun v4 S =>
 uExt 2 v2 S fun v5 S =>
 uNewF 23 4 [(.s []), (.n 0), (.i .i32 0), (.t false)] S fun v6 S =>
 uSt 4 v6 v3 S fun v7 S =>
 κ a c v6 v4 v5 S
def u14_3 (C : CU) := m5 fun a c d e f S κ =>
 uCvBS c S fun v0 S =>
 uEq false .eql v0 (.s [130, 33, 1, 1, 97]) S fun v1 S =>
 eT v1 fun b => cn b
 (uEq false .eql f (.n 0) S fun v2 S =>
 eT v2 fun b => cn b
 (uEq false .eql e (.n 13) S fun v3 S =>
 eT v3 fun b => cn b
 (uFad 0 d S fun v4 S =>
 uLd none v4 S fun v5 S =>
 uEq false .eql v5 (.s [98]) S fun v6 S =>
 eT v6 fun b => cn b
 (uFad 2 d S fun v7 S =>
 uLd none v7 S fun v8 S =>
 uEq false .eql v8 (.i .i32 (-1)) S fun v9 S =>
 κ v9 c d e f S)
 (κ (.t false) c d e f S))
 (κ (.t false) c d e f S))
 (κ (.t false) c d e f S))
 (κ (.t false) c d e f S)
def u14r (v : W5) (S : FAW) : RU := W5.rec (motive := fun _ => RU) (fun a c d e f => .ok a S) v
def u14b (C : CU) (n : Nat) : CdU W5 := seqU (u14_0 C) (seqU (u14_1 C) (seqU (u14_2 C) (seqU (u14_3 C) (retU))))
def u14 : Fu := fun C n args S => u14b C n ((fu5 0 1 2 3 4).ent (argU args)) S fun o v S => exU o (u14r v S) (fun _ => .no) (u14r v S)
/-! assayer/assayerref19.PutHead -/
def u15_0 (C : CU) := m11 fun a c d e f g h i j k l S κ =>
 uBox 23 4 c S fun v0 S =>
 κ a c v0 .nl f g h i j k l S
def u15_1 (C : CU) := m11 fun a c d e f g h i j k l S κ =>
 uFad 1 d S fun v0 S =>
 uLd none v0 S fun v1 S =>
 uCmp ltN .lss v1 (.n 1) S fun v2 S =>
 eT v2 fun b => cn b
 (κ a c d e f g h (.t true) j k l S)
 (uFad 1 d S fun v3 S =>
 uLd none v3 S fun v4 S =>
 uCmp (fun a b => ltN b a) .gtr v4 (.n 4) S fun v5 S =>
 κ a c d e f g h v5 j k l S)
def u15_2 := k11 fun a c d e f g h i j k l => i
def u15_3 (C : CU) := m11 fun a c d e f g h i j k l S κ =>
 κ a c d .nl f g h i j k l S
def u15_4 (C : CU) := m11 fun a c d e f g h i j k l S κ =>
 uEq false .eql a (.n 0) S fun v0 S =>
 eT v0 fun b => cn b
 (uFad 3 d S fun v1 S =>
 uLd none v1 S fun v2 S =>
 κ a c d e f g h i v2 k l S)
 (κ a c d e f g h i (.t false) k l S)
def u15_5 := k11 fun a c d e f g h i j k l => j
def u15_6 (C : CU) := m11 fun a c d e f g h i j k l S κ =>
 uFad 0 d S fun v0 S54 =>
 uLd none v0 S54 fun v1 S55 =>
 uFad 1 d S55 fun v2 S56 =>
 uLd none v2 S56 fun v3 S57 =>
 uCvI .u8 v3 S57 fun v4 S58 =>
 uLitF 5 1 [(.b 0)] 1 [(0, 1, v4)] S58 fun v5 S59 =>
 uLd none v2 S59 fun u _ => veqU u v3
 (uLd none v0 S59 fun u _ => veqU u v1
 (uCall C 52 [.nl, v1] S59 fun v7 S61 =>
 rowU2 S61 S59 v5
 (uLd none v2 S61 fun u _ => veqU u v3
 (uApp 5 1 1 v7 v5 S61 fun v8 S62 =>
 κ a c d e v8 g h i j k l S62))))
def u15_7 (C : CU) := m11 fun a c d e f g h i j k l S κ =>
 uFad 2 d S fun v0 S =>
 uLd none v0 S fun v1 S =>
 uCvI .u32 v1 S fun v2 S =>
 uCvI .u64 v2 S fun v3 S =>
 uCall C 53 [f, v3, (.n 4)] S fun v4 S =>
 κ a c d v4 f g h i j k l S
def u15_8 (C : CU) := m11 fun a c d e f g h i j k l S κ =>
 uEq false .eql a (.n 0) S fun v0 S =>
 κ a c d e f g h i j v0 l S
def u15_9 := k11 fun a c d e f g h i j k l => k
def u15_10 (C : CU) := m11 fun a c d e f g h i j k l S κ =>
 uFad 1 d S fun v0 S =>
 uLd none v0 S fun v1 S =>
 uCvI .u8 v1 S fun v2 S =>
 uLitF 5 1 [(.b 0)] 4 [(0, 1, (.b 128)), (1, 1, (.b 1)), (2, 1, (.b 0)), (3, 1, v2)] S fun v3 S =>
 uFad 0 d S fun v4 S =>
 uLd none v4 S fun v5 S =>
 uCall C 52 [v3, v5] S fun v6 S =>
 κ a c d e f v6 h i j k l S
def u15_11 (C : CU) := m11 fun a c d e f g h i j k l S κ =>
 uFad 2 d S fun v0 S =>
 uLd none v0 S fun v1 S =>
 uCvI .u32 v1 S fun v2 S =>
 uCvI .u64 v2 S fun v3 S =>
 uCall C 53 [g, v3, (.n 4)] S fun v4 S =>
 κ a c d v4 f g h i j k l S
def u15_12 (C : CU) := m11 fun a c d e f g h i j k l S κ =>
 uEq false .eql a (.n 1) S fun v0 S =>
 κ a c d e f g h i j k v0 S
def u15_13 := k11 fun a c d e f g h i j k l => l
def u15_14 (C : CU) := m11 fun a c d e f g h i j k l S κ =>
 uFad 1 d S fun v0 S =>
 uLd none v0 S fun v1 S =>
 uMul (.n 32) v1 S fun v2 S =>
 uAdd v2 (.n 1) S fun v3 S =>
 uCvI .u8 v3 S fun v4 S =>
 uLitF 5 1 [(.b 0)] 2 [(0, 1, (.b 130)), (1, 1, v4)] S fun v5 S =>
 uFad 2 d S fun v6 S =>
 uLd none v6 S fun v7 S =>
 uCvI .u32 v7 S fun v8 S =>
 uCvI .u64 v8 S fun v9 S =>
 uCall C 54 [v5, v9] S fun v10 S =>
 κ a c d e f g v10 i j k l S
def u15_15 (C : CU) := m11 fun a c d e f g h i j k l S κ =>
 uFad 0 d S fun v0 S =>
 uLd none v0 S fun v1 S =>
 uLen true v1 S fun v2 S =>
 uCvI .u64 v2 S fun v3 S =>
 uFad 0 d S fun v4 S =>
 uLd none v4 S fun v5 S =>
 uCall C 54 [h, v3] S fun v6 S =>
 uLd none v4 S fun u _ => veqU u v5
 (uApp 5 1 1 v6 v5 S fun v7 S =>
 κ a c d v7 f g h i j k l S)
def u15_16 (C : CU) := m11 fun a c d e f g h i j k l S κ =>
 κ a c d .nl f g h i j k l S
def u15r (v : W11) (S : FAW) : RU := W11.rec (motive := fun _ => RU) (fun a c d e f g h i j k l => .ok e S) v
def u15b (C : CU) (n : Nat) : CdU W11 := seqU (u15_0 C) (seqU (seqU (u15_1 C) (condU u15_2 (seqU (u15_3 C) (retU)) (skipU))) (seqU (blockU 0 (seqU (u15_4 C) (condU u15_5 (seqU (u15_6 C) (seqU (u15_7 C) (retU))) (seqU (u15_8 C) (condU u15_9 (seqU (u15_10 C) (seqU (u15_11 C) (retU))) (seqU (u15_12 C) (condU u15_13 (seqU (u15_14 C) (seqU (u15_15 C) (retU))) (skipU)))))))) (seqU (u15_16 C) (retU))))
def u15 : Fu := fun C n args S => u15b C n ((fu11 0 1 3 4 5 6 7 15 16 37 53).ent (argU args)) S fun o v S => exU o (u15r v S) (fun _ => .no) (u15r v S)
/-! assayer/msg.Take -/
def u16_0 (C : CU) := m10 fun a c d e f g h i j k S κ =>
 uNewF 23 4 [(.s []), (.n 0), (.i .i32 0), (.t false)] S fun v0 S =>
 κ a c v0 (.n 0) (.n 0) g h i j k S
def u16_1 (C : CU) := m10 fun a c d e f g h i j k S κ =>
 uBuildF [.nl, (.n 0), (.n 0)] [(0, 1, c)] S fun v0 S =>
 uBuildF [.nl, (.n 0), (.n 0), (.s []), (.n 0), (.i .i32 0), (.t false)] [(0, 3, v0)] S fun v1 S =>
 uBox 73 7 v1 S fun v2 S =>
 κ a c d e f v2 h i j k S
def u16_2 (C : CU) := m10 fun a c d e f g h i j k S κ =>
 κ a c d e f g a i j k S
def u16_3 (C : CU) := m10 fun a c d e f g h i j k S κ =>
 uEq false .eql h (.n 0) S fun v0 S =>
 κ a c d e f g h v0 j k S
def u16_4 := k10 fun a c d e f g h i j k => i
def u16_5 (C : CU) := m10 fun a c d e f g h i j k S κ =>
 uCall C 55 [g] S fun v0 S =>
 κ a c d e f g h i j k S
def u16_6 (C : CU) := m10 fun a c d e f g h i j k S κ =>
 uEq false .eql h (.n 1) S fun v0 S =>
 κ a c d e f g h i v0 k S
def u16_7 := k10 fun a c d e f g h i j k => j
def u16_8 (C : CU) := m10 fun a c d e f g h i j k S κ =>
 uCall C 56 [g] S fun v0 S =>
 κ a c d e f g h i j k S
def u16_9 (C : CU) := m10 fun a c d e f g h i j k S κ =>
 uNilc g S fun v0 S =>
 uFad 0 v0 S fun v1 S =>
 uCall C 57 [v1, (.t true), (.n 1)] S fun v2 S =>
 κ a c d e f g h i j k S
def u16_10 (C : CU) := m10 fun a c d e f g h i j k S κ =>
 uNilc g S fun v0 S =>
 uFad 0 v0 S fun v1 S =>
 uFad 2 v1 S fun v2 S =>
 uLd none v2 S fun v3 S =>
 uEq true .neq v3 (.n 0) S fun v4 S =>
 κ a c d e f g h i j v4 S
def u16_11 := k10 fun a c d e f g h i j k => k
def u16_12 (C : CU) := m10 fun a c d e f g h i j k S κ =>
 uBuildF [(.s []), (.n 0), (.i .i32 0), (.t false)] [] S fun v0 S =>
 uNilc g S fun v1 S =>
 uFad 0 v1 S fun v2 S =>
 uFad 2 v2 S fun v3 S =>
 uLd none v3 S fun v4 S =>
 uSt 4 d v0 S fun v5 S =>
 uLd none v3 S fun u _ => veqU u v4
 (κ a c d (.n 0) v4 g h i j k S)
def u16_13 (C : CU) := m10 fun a c d e f g h i j k S κ =>
 uNilc g S fun v0 S =>
 uFad 3 v0 S fun v1 S =>
 uLd (some 4) v1 S fun v2 S =>
 uNilc g S fun v3 S =>
 uFad 0 v3 S fun v4 S =>
 uFad 1 v4 S fun v5 S =>
 uLd none v5 S fun v6 S =>
 uSt 4 d v2 S fun v7 S =>
 uLd none v5 S fun u _ => veqU u v6
 (κ a c d v6 (.n 0) g h i j k S)
def u16r (v : W10) (S : FAW) : RU := W10.rec (motive := fun _ => RU) (fun a c d e f g h i j k => uLd (some 4) d S fun r4 _ => .ok (.u [r4, e, f]) S) v
def u16b (C : CU) (n : Nat) : CdU W10 := seqU (u16_0 C) (seqU (u16_1 C) (seqU (seqU (u16_2 C) (blockU 0 (seqU (u16_3 C) (condU u16_4 (u16_5 C) (seqU (u16_6 C) (condU u16_7 (u16_8 C) (u16_9 C))))))) (seqU (seqU (u16_10 C) (condU u16_11 (seqU (u16_12 C) (retU)) (skipU))) (seqU (u16_13 C) (retU)))))
def u16 : Fu := fun C n args S => u16b C n ((fu10 0 1 4 5 6 7 12 17 21 30).ent (argU args)) S fun o v S => exU o (u16r v S) (fun _ => .no) (u16r v S)
/-! assayer/assayerref19.TakeHead -/
def u17_0 (C : CU) := m13 fun a c d e f g h i j k l m o S κ =>
 uNewF 23 4 [(.s []), (.n 0), (.i .i32 0), (.t false)] S fun v0 S =>
 κ a c v0 (.n 0) (.n 0) g h i j k l m o S
def u17_1 (C : CU) := m13 fun a c d e f g h i j k l m o S κ =>
 uEq true .neq a (.n 0) S fun v0 S =>
 eT v0 fun b => cn b
 (uEq true .neq a (.n 1) S fun v1 S =>
 κ a c d e f g h i v1 k l m o S)
 (κ a c d e f g h i (.t false) k l m o S)
def u17_2 := k13 fun a c d e f g h i j k l m o => j
def u17_3 (C : CU) := m13 fun a c d e f g h i j k l m o S κ =>
 uBuildF [(.s []), (.n 0), (.i .i32 0), (.t false)] [] S fun v0 S =>
 uSt 4 d v0 S fun v1 S =>
 κ a c d (.n 0) (.n 1) g h i j k l m o S
def u17_4 (C : CU) := m13 fun a c d e f g h i j k l m o S κ =>
 uLen false c S fun v0 S =>
 uAdd v0 (.n 100) S fun v1 S =>
 uBuildF [(.n 0), (.n 0)] [(1, 1, v1)] S fun v2 S =>
 uBuildF [.nl, .nl, .nl, (.n 0), .nl, (.n 0), (.n 0), (.n 0), (.n 0)] [(3, 1, a), (4, 1, c), (6, 2, v2)] S fun v3 S =>
 uBox 84 9 v3 S fun v4 S =>
 κ a c d e f v4 h i j k l m o S
def u17_5 (C : CU) := m13 fun a c d e f g h i j k l m o S κ =>
 uNewF 23 4 [(.s []), (.n 0), (.i .i32 0), (.t false)] S fun v0 S =>
 κ a c d e f g v0 i j k l m o S
def u17_6 (C : CU) := m13 fun a c d e f g h i j k l m o S κ =>
 uEq false .eql a (.n 1) S fun v0 S =>
 κ a c d e f g h i j v0 l m o S
def u17_7 := k13 fun a c d e f g h i j k l m o => k
def u17_8 (C : CU) := m13 fun a c d e f g h i j k l m o S κ =>
 uCall C 58 [g, (.b 130)] S fun v0 S =>
 κ a c d e f g h i j k l m o S
def u17_9 (C : CU) := m13 fun a c d e f g h i j k l m o S κ =>
 uCall C 59 [g, (.n 1)] S fun v0 S =>
 κ a c d e f g h v0 j k l m o S
def u17_10 (C : CU) := m13 fun a c d e f g h i j k l m o S κ =>
 uGet 8 g S fun v2 S =>
 uEq false .eql v2 (.n 0) S fun v3 S =>
 eT v3 fun b => cn b
 (uQuo false .rem i (.i .u64 32) S fun v4 S =>
 uEq true .neq v4 (.i .u64 1) S fun v5 S =>
 κ a c d e f g h i j k v5 m o S)
 (κ a c d e f g h i j k (.t false) m o S)
def u17_11 := k13 fun a c d e f g h i j k l m o => l
def u17_12 (C : CU) := m13 fun a c d e f g h i j k l m o S κ =>
 uNilc g S fun v0 S =>
 uFad 8 v0 S fun v1 S =>
 uSt 1 v1 (.n 2) S fun v2 S =>
 κ a c d e f g h i j k l m o S
def u17_13 (C : CU) := m13 fun a c d e f g h i j k l m o S κ =>
 uQuo true .quo i (.i .u64 32) S fun v0 S =>
 uCvI .i64 v0 S fun v1 S =>
 uFad 1 h S fun v2 S =>
 uSt 1 v2 v1 S fun v3 S =>
 κ a c d e f g h i j k l m o S
def u17_14 (C : CU) := m13 fun a c d e f g h i j k l m o S κ =>
 uFad 1 h S fun v0 S =>
 uLd none v0 S fun v1 S =>
 uCall C 60 [g, v1] S fun v2 S =>
 κ a c d e f g h i j k l m o S
def u17_15 (C : CU) := m13 fun a c d e f g h i j k l m o S κ =>
 uCall C 61 [g, (.n 32)] S fun v0 S =>
 uCvI .u32 v0 S fun v1 S =>
 uCvI .i32 v1 S fun v2 S =>
 uFad 2 h S fun v3 S =>
 uSt 1 v3 v2 S fun v4 S =>
 κ a c d e f g h i j k l m o S
def u17_16 (C : CU) := m13 fun a c d e f g h i j k l m o S κ =>
 uCall C 61 [g, (.n 32)] S fun v0 S =>
 uCall C 62 [g, v0] S fun v1 S =>
 uFad 0 h S fun v2 S =>
 uSt 1 v2 v1 S fun v3 S =>
 κ a c d e f g h i j k l m o S
def u17_17 (C : CU) := m13 fun a c d e f g h i j k l m o S κ =>
 uLen false c S fun v0 S =>
 uCmp (fun a b => ltN b a) .gtr v0 (.n 0) S fun v1 S =>
 eT v1 fun b => cn b
 (uIad 1 c (.n 0) S fun v2 S =>
 uLd none v2 S fun v3 S =>
 uCmp ltN .lss v3 (.b 128) S fun v4 S =>
 κ a c d e f g h i j k l v4 o S)
 (κ a c d e f g h i j k l (.t false) o S)
def u17_18 := k13 fun a c d e f g h i j k l m o => m
def u17_19 (C : CU) := m13 fun a c d e f g h i j k l m o S κ =>
 uFad 3 h S fun v0 S =>
 uSt 1 v0 (.t true) S fun v1 S =>
 κ a c d e f g h i j k l m o S
def u17_20 (C : CU) := m13 fun a c d e f g h i j k l m o S κ =>
 uCall C 59 [g, (.n 4)] S fun v0 S =>
 uCall C 62 [g, v0] S fun v1 S =>
 uFad 0 h S fun v2 S =>
 uSt 1 v2 v1 S fun v3 S =>
 κ a c d e f g h i j k l m o S
def u17_21 (C : CU) := m13 fun a c d e f g h i j k l m o S κ =>
 uCall C 59 [g, (.n 1)] S fun v0 S =>
 uCvI .i64 v0 S fun v1 S =>
 uFad 1 h S fun v2 S =>
 uSt 1 v2 v1 S fun v3 S =>
 κ a c d e f g h i j k l m o S
def u17_22 (C : CU) := m13 fun a c d e f g h i j k l m o S κ =>
 uFad 1 h S fun v0 S =>
 uLd none v0 S fun v1 S =>
 uCall C 60 [g, v1] S fun v2 S =>
 κ a c d e f g h i j k l m o S
def u17_23 (C : CU) := m13 fun a c d e f g h i j k l m o S κ =>
 uCall C 59 [g, (.n 4)] S fun v0 S =>
 uCvI .u32 v0 S fun v1 S =>
 uCvI .i32 v1 S fun v2 S =>
 uFad 2 h S fun v3 S =>
 uSt 1 v3 v2 S fun v4 S =>
 κ a c d e f g h i j k l m o S
def u17_24 (C : CU) := m13 fun a c d e f g h i j k l m o S κ =>
 uCall C 58 [g, (.b 128)] S fun v0 S =>
 κ a c d e f g h i j k l m o S
def u17_25 (C : CU) := m13 fun a c d e f g h i j k l m o S κ =>
 uCall C 58 [g, (.b 1)] S fun v0 S =>
 κ a c d e f g h i j k l m o S
def u17_26 (C : CU) := m13 fun a c d e f g h i j k l m o S κ =>
 uCall C 58 [g, (.b 0)] S fun v0 S =>
 κ a c d e f g h i j k l m o S
def u17_27 (C : CU) := m13 fun a c d e f g h i j k l m o S κ =>
 uCall C 59 [g, (.n 1)] S fun v0 S =>
 uCvI .i64 v0 S fun v1 S =>
 uFad 1 h S fun v2 S =>
 uSt 1 v2 v1 S fun v3 S =>
 κ a c d e f g h i j k l m o S
def u17_28 (C : CU) := m13 fun a c d e f g h i j k l m o S κ =>
 uFad 1 h S fun v0 S =>
 uLd none v0 S fun v1 S =>
 uCall C 60 [g, v1] S fun v2 S =>
 κ a c d e f g h i j k l m o S
def u17_29 (C : CU) := m13 fun a c d e f g h i j k l m o S κ =>
 uCall C 59 [g, (.n 4)] S fun v0 S =>
 uCall C 62 [g, v0] S fun v1 S =>
 uFad 0 h S fun v2 S =>
 uSt 1 v2 v1 S fun v3 S =>
 κ a c d e f g h i j k l m o S
def u17_30 (C : CU) := m13 fun a c d e f g h i j k l m o S κ =>
 uCall C 59 [g, (.n 4)] S fun v0 S =>
 uCvI .u32 v0 S fun v1 S =>
 uCvI .i32 v1 S fun v2 S =>
 uFad 2 h S fun v3 S =>
 uSt 1 v3 v2 S fun v4 S =>
 κ a c d e f g h i j k l m o S
def u17_31 (C : CU) := m13 fun a c d e f g h i j k l m o S κ =>
 uGet 8 g S fun v2 S =>
 uEq true .neq v2 (.n 0) S fun v3 S =>
 κ a c d e f g h i j k l m v3 S
def u17_32 := k13 fun a c d e f g h i j k l m o => o
def u17_33 (C : CU) := m13 fun a c d e f g h i j k l m o S κ =>
 uBuildF [(.s []), (.n 0), (.i .i32 0), (.t false)] [] S fun v0 S =>
 uNilc g S fun v1 S =>
 uFad 8 v1 S fun v2 S =>
 uLd none v2 S fun v3 S =>
 uSt 4 d v0 S fun v4 S =>
 uLd none v2 S fun u _ => veqU u v3
 (κ a c d (.n 0) v3 g h i j k l m o S)
def u17_34 (C : CU) := m13 fun a c d e f g h i j k l m o S κ =>
 uLd (some 4) h S fun v0 S =>
 uNilc g S fun v1 S =>
 uFad 5 v1 S fun v2 S =>
 uLd none v2 S fun v3 S =>
 uSt 4 d v0 S fun v4 S =>
 uLd none v2 S fun u _ => veqU u v3
 (κ a c d v3 (.n 0) g h i j k l m o S)
def u17r (v : W13) (S : FAW) : RU := W13.rec (motive := fun _ => RU) (fun a c d e f g h i j k l m o => uLd (some 4) d S fun r4 _ => .ok (.u [r4, e, f]) S) v
def u17b (C : CU) (n : Nat) : CdU W13 := seqU (u17_0 C) (seqU (seqU (u17_1 C) (condU u17_2 (seqU (u17_3 C) (retU)) (skipU))) (seqU (u17_4 C) (seqU (u17_5 C) (seqU (seqU (u17_6 C) (condU u17_7 (seqU (u17_8 C) (seqU (u17_9 C) (seqU (seqU (u17_10 C) (condU u17_11 (u17_12 C) (skipU))) (seqU (u17_13 C) (seqU (u17_14 C) (seqU (u17_15 C) (u17_16 C))))))) (seqU (u17_17 C) (condU u17_18 (seqU (u17_19 C) (seqU (u17_20 C) (seqU (u17_21 C) (seqU (u17_22 C) (u17_23 C))))) (seqU (u17_24 C) (seqU (u17_25 C) (seqU (u17_26 C) (seqU (u17_27 C) (seqU (u17_28 C) (seqU (u17_29 C) (u17_30 C))))))))))) (seqU (seqU (u17_31 C) (condU u17_32 (seqU (u17_33 C) (retU)) (skipU))) (seqU (u17_34 C) (retU)))))))
def u17 : Fu := fun C n args S => u17b C n ((fu13 0 1 4 5 6 7 8 9 15 26 40 70 118).ent (argU args)) S fun o v S => exU o (u17r v S) (fun _ => .no) (u17r v S)
/-! assayer/msg.Put -/
def u18_0 (C : CU) := m10 fun a c d e f g h i j k S κ =>
 uBox 23 4 c S fun v0 S =>
 κ a c v0 .nl f g h i j k S
def u18_1 (C : CU) := m10 fun a c d e f g h i j k S κ =>
 uFad 2 d S fun v0 S =>
 uLd none v0 S fun v1 S =>
 uCvI .u32 v1 S fun v2 S =>
 uCvI .u64 v2 S fun v3 S =>
 κ a c d e v3 g h i j k S
def u18_2 (C : CU) := m10 fun a c d e f g h i j k S κ =>
 uFad 1 d S fun v0 S =>
 uLd none v0 S fun v1 S =>
 uCall C 63 [v1] S fun v2 S =>
 uNot v2 S fun v3 S =>
 κ a c d e f g v3 i j k S
def u18_3 := k10 fun a c d e f g h i j k => h
def u18_4 (C : CU) := m10 fun a c d e f g h i j k S κ =>
 κ a c d .nl f g h i j k S
def u18_5 (C : CU) := m10 fun a c d e f g h i j k S κ =>
 uEq false .eql a (.n 0) S fun v0 S =>
 eT v0 fun b => cn b
 (uFad 3 d S fun v1 S =>
 uLd none v1 S fun v2 S =>
 κ a c d e f g h v2 j k S)
 (κ a c d e f g h (.t false) j k S)
def u18_6 := k10 fun a c d e f g h i j k => i
def u18_7 (C : CU) := m10 fun a c d e f g h i j k S κ =>
 uFad 0 d S fun v0 S46 =>
 uLd none v0 S46 fun v1 S47 =>
 uFad 1 d S47 fun v2 S48 =>
 uLd none v2 S48 fun v3 S49 =>
 uCvI .u8 v3 S49 fun v4 S50 =>
 uLitF 5 1 [(.b 0)] 1 [(0, 1, v4)] S50 fun v5 S51 =>
 uLd none v2 S51 fun u _ => veqU u v3
 (uLd none v0 S51 fun u _ => veqU u v1
 (uCall C 65 [.nl, v1] S51 fun v7 S53 =>
 rowU2 S53 S51 v5
 (uLd none v2 S53 fun u _ => veqU u v3
 (uApp 5 1 1 v7 v5 S53 fun v8 S54 =>
 uCall C 64 [v8, f, (.n 4)] S54 fun v9 S55 =>
 κ a c d v9 f g h i j k S55))))
def u18_8 (C : CU) := m10 fun a c d e f g h i j k S κ =>
 uEq false .eql a (.n 0) S fun v0 S =>
 κ a c d e f g h i v0 k S
def u18_9 := k10 fun a c d e f g h i j k => j
def u18_10 (C : CU) := m10 fun a c d e f g h i j k S κ =>
 uFad 1 d S fun v0 S =>
 uLd none v0 S fun v1 S =>
 uCvI .u8 v1 S fun v2 S =>
 uLitF 5 1 [(.b 0)] 4 [(0, 1, (.b 128)), (1, 1, (.b 1)), (2, 1, (.b 0)), (3, 1, v2)] S fun v3 S =>
 uFad 0 d S fun v4 S =>
 uLd none v4 S fun v5 S =>
 uCall C 65 [v3, v5] S fun v6 S =>
 uCall C 64 [v6, f, (.n 4)] S fun v7 S =>
 κ a c d v7 f g h i j k S
def u18_11 (C : CU) := m10 fun a c d e f g h i j k S κ =>
 uEq false .eql a (.n 1) S fun v0 S =>
 κ a c d e f g h i j v0 S
def u18_12 := k10 fun a c d e f g h i j k => k
def u18_13 (C : CU) := m10 fun a c d e f g h i j k S κ =>
 uFad 1 d S fun v0 S =>
 uLd none v0 S fun v1 S =>
 uSlow .shl v1 (.i .u64 5) S fun v2 S =>
 uSlow .or v2 (.n 1) S fun v3 S =>
 uCvI .u8 v3 S fun v4 S =>
 uLitF 5 1 [(.b 0)] 2 [(0, 1, (.b 130)), (1, 1, v4)] S fun v5 S =>
 uCall C 66 [v5, f] S fun v6 S =>
 κ a c d e f v6 h i j k S
def u18_14 (C : CU) := m10 fun a c d e f g h i j k S κ =>
 uFad 0 d S fun v0 S =>
 uLd none v0 S fun v1 S =>
 uLen true v1 S fun v2 S =>
 uCvI .u64 v2 S fun v3 S =>
 uFad 0 d S fun v4 S =>
 uLd none v4 S fun v5 S =>
 uCall C 66 [g, v3] S fun v6 S =>
 uLd none v4 S fun u _ => veqU u v5
 (uApp 5 1 1 v6 v5 S fun v7 S =>
 κ a c d v7 f g h i j k S)
def u18_15 (C : CU) := m10 fun a c d e f g h i j k S κ =>
 κ a c d .nl f g h i j k S
def u18r (v : W10) (S : FAW) : RU := W10.rec (motive := fun _ => RU) (fun a c d e f g h i j k => .ok e S) v
def u18b (C : CU) (n : Nat) : CdU W10 := seqU (u18_0 C) (seqU (u18_1 C) (seqU (blockU 0 (seqU (u18_2 C) (condU u18_3 (seqU (u18_4 C) (retU)) (seqU (u18_5 C) (condU u18_6 (seqU (u18_7 C) (retU)) (seqU (u18_8 C) (condU u18_9 (seqU (u18_10 C) (retU)) (seqU (u18_11 C) (condU u18_12 (seqU (u18_13 C) (seqU (u18_14 C) (retU))) (skipU)))))))))) (seqU (u18_15 C) (retU))))
def u18 : Fu := fun C n args S => u18b C n ((fu10 0 1 3 4 5 6 11 16 33 45).ent (argU args)) S fun o v S => exU o (u18r v S) (fun _ => .no) (u18r v S)
/-! assayer/assayerlaw0.Place -/
def u19_0 (C : CU) := m4 fun a c d e S κ =>
 κ a c (.n 0) e S
def u19_1 (C : CU) := m4 fun a c d e S κ =>
 uCmp Nat.ble .leq c (.n 0) S fun v0 S =>
 κ a c d v0 S
def u19_2 := k4 fun a c d e => e
def u19_3 (C : CU) := m4 fun a c d e S κ =>
 κ a c (.n 0) e S
def u19_4 (C : CU) := m4 fun a c d e S κ =>
 uQuo false .rem a c S fun v0 S =>
 uAdd v0 c S fun v1 S =>
 uQuo false .rem v1 c S fun v2 S =>
 κ a c v2 e S
def u19r (v : W4) (S : FAW) : RU := W4.rec (motive := fun _ => RU) (fun a c d e => .ok d S) v
def u19b (C : CU) (n : Nat) : CdU W4 := seqU (u19_0 C) (seqU (seqU (u19_1 C) (condU u19_2 (seqU (u19_3 C) (retU)) (skipU))) (seqU (u19_4 C) (retU)))
def u19 : Fu := fun C n args S => u19b C n ((fu4 0 1 4 6).ent (argU args)) S fun o v S => exU o (u19r v S) (fun _ => .no) (u19r v S)
/-! assayer/assayerref1.PutText -/
def u52_0 (C : CU) := m3 fun a c d S κ =>
 κ a c .nl S
def u52_1 (C : CU) := m3 fun a c d S κ =>
 uLen true c S fun v0 S =>
 uCvI .u64 v0 S fun v1 S =>
 uCall C 53 [a, v1, (.n 4)] S fun v2 S =>
 uApp 5 1 1 v2 c S fun v3 S =>
 κ a c v3 S
def u52r (v : W3) (S : FAW) : RU := W3.rec (motive := fun _ => RU) (fun a c d => .ok d S) v
def u52b (C : CU) (n : Nat) : CdU W3 := seqU (u52_0 C) (seqU (u52_1 C) (retU))
def u52 : Fu := fun C n args S => u52b C n ((fu3 0 1 4).ent (argU args)) S fun o v S => exU o (u52r v S) (fun _ => .no) (u52r v S)
/-! assayer/assayerref1.Put -/
def u53_0 (C : CU) := m9 fun a c d e f g h i j S κ =>
 κ a c d .nl f g h i j S
def u53_1 (C : CU) := m9 fun a c d e f g h i j S κ =>
 uLitF 5 1 [(.b 0)] 0 [] S fun v0 S =>
 uApp 5 1 1 v0 a S fun v1 S =>
 κ a c d e v1 g h i j S
def u53_2 (C : CU) := m9 fun a c d e f g h i j S κ =>
 uCmp ltN .lss d (.n 0) S fun v0 S =>
 eT v0 fun b => cn b
 (κ a c d e f g h (.t true) j S)
 (uCmp (fun a b => ltN b a) .gtr d (.n 8) S fun v1 S =>
 κ a c d e f g h v1 j S)
def u53_3 := k9 fun a c d e f g h i j => i
def u53_4 (C : CU) := m9 fun a c d e f g h i j S κ =>
 κ a c d f f g h i j S
def u53_5 (C : CU) := m9 fun a c d e f g h i j S κ =>
 uLen false f S fun v0 S =>
 κ a c d e f v0 h i j S
def u53_6 (C : CU) := m9 fun a c d e f g h i j S κ =>
 uAppzF 5 1 1 [(.b 0)] f d S fun v0 S =>
 κ a c d e v0 g h i j S
def u53_7 (C : CU) := m9 fun a c d e f g h i j S κ =>
 uLen false f S fun v0 S =>
 uSub v0 (.n 1) S fun v1 S =>
 κ a c d e f g v1 i j S
def u53_8 (C : CU) := m9 fun a c d e f g h i j S κ =>
 uCmp (fun a b => Nat.ble b a) .geq h g S fun v0 S =>
 κ a c d e f g h i v0 S
def u53_9 := k9 fun a c d e f g h i j => j
def u53_10 (C : CU) := m9 fun a c d e f g h i j S κ =>
 uQuo false .rem c (.i .u64 256) S fun v0 S =>
 uCvI .u8 v0 S fun v1 S =>
 uIad 1 f h S fun v2 S =>
 uSt 1 v2 v1 S fun v3 S =>
 κ a c d e f g h i j S
def u53_11 (C : CU) := m9 fun a c d e f g h i j S κ =>
 uQuo true .quo c (.i .u64 256) S fun v0 S =>
 κ a v0 d e f g h i j S
def u53_12 (C : CU) := m9 fun a c d e f g h i j S κ =>
 uSub h (.n 1) S fun v0 S =>
 κ a c d e f g v0 i j S
def u53_13 (C : CU) (n : Nat) : CdU W9 := seqU (seqU (u53_8 C) (condU u53_9 (skipU) (exitU 0))) (seqU (blockU 1 (seqU (u53_10 C) (u53_11 C))) (u53_12 C))
def u53_14 (C : CU) := m9 fun a c d e f g h i j S κ =>
 κ a c d f f g h i j S
def u53r (v : W9) (S : FAW) : RU := W9.rec (motive := fun _ => RU) (fun a c d e f g h i j => .ok e S) v
def u53b (C : CU) (n : Nat) : CdU W9 := seqU (u53_0 C) (seqU (u53_1 C) (seqU (seqU (u53_2 C) (condU u53_3 (seqU (u53_4 C) (retU)) (skipU))) (seqU (u53_5 C) (seqU (u53_6 C) (seqU (seqU (u53_7 C) (blockU 0 (loopU n (u53_13 C n)))) (seqU (u53_14 C) (retU)))))))
def u53 : Fu := fun C n args S => u53b C n ((fu9 0 1 2 6 7 8 9 18 30).ent (argU args)) S fun o v S => exU o (u53r v S) (fun _ => .no) (u53r v S)
/-! assayer/assayerref1.PutVar -/
def u54_0 (C : CU) := m5 fun a c d e f S κ =>
 κ a c .nl e f S
def u54_1 (C : CU) := m5 fun a c d e f S κ =>
 uLitF 5 1 [(.b 0)] 0 [] S fun v0 S =>
 uApp 5 1 1 v0 a S fun v1 S =>
 κ a c d v1 f S
def u54_2 (C : CU) := m5 fun a c d e f S κ =>
 uCmp (fun a b => ltN b a) .gtr c (.i .u64 127) S fun v0 S =>
 κ a c d e v0 S
def u54_3 := k5 fun a c d e f => f
def u54_4 (C : CU) := m5 fun a c d e f S κ =>
 uQuo false .rem c (.i .u64 128) S fun v0 S =>
 uCvI .u8 v0 S fun v1 S =>
 uAdd v1 (.b 128) S fun v2 S =>
 uLitF 5 1 [(.b 0)] 1 [(0, 1, v2)] S fun v3 S =>
 uApp 5 1 1 e v3 S fun v4 S =>
 κ a c d v4 f S
def u54_5 (C : CU) := m5 fun a c d e f S κ =>
 uQuo true .quo c (.i .u64 128) S fun v0 S =>
 κ a v0 d e f S
def u54_6 (C : CU) (n : Nat) : CdU W5 := seqU (seqU (u54_2 C) (condU u54_3 (skipU) (exitU 0))) (blockU 1 (seqU (u54_4 C) (u54_5 C)))
def u54_7 (C : CU) := m5 fun a c d e f S κ =>
 uCvI .u8 c S fun v0 S =>
 uLitF 5 1 [(.b 0)] 1 [(0, 1, v0)] S fun v1 S =>
 uApp 5 1 1 e v1 S fun v2 S =>
 κ a c v2 e f S
def u54r (v : W5) (S : FAW) : RU := W5.rec (motive := fun _ => RU) (fun a c d e f => .ok d S) v
def u54b (C : CU) (n : Nat) : CdU W5 := seqU (u54_0 C) (seqU (u54_1 C) (seqU (blockU 0 (loopU n (u54_6 C n))) (seqU (u54_7 C) (retU))))
def u54 : Fu := fun C n args S => u54b C n ((fu5 0 1 4 5 10).ent (argU args)) S fun o v S => exU o (u54r v S) (fun _ => .no) (u54r v S)
/-! (*assayer/msg.reader).binary -/
def u55_0 (C : CU) := m2 fun a c S κ =>
 uNilc a S fun v0 S =>
 uFad 0 v0 S fun v1 S =>
 uFad 0 v1 S fun v2 S =>
 uLd none v2 S fun v3 S =>
 uLen false v3 S fun v4 S =>
 uCmp (fun a b => ltN b a) .gtr v4 (.n 0) S fun v5 S =>
 eT v5 fun b => cn b
 (uNilc a S fun v6 S =>
 uFad 0 v6 S fun v7 S =>
 uFad 0 v7 S fun v8 S =>
 uLd none v8 S fun v9 S =>
 uIad 1 v9 (.n 0) S fun v10 S =>
 uLd none v10 S fun v11 S =>
 uCmp ltN .lss v11 (.b 128) S fun v12 S =>
 κ a v12 S)
 (κ a (.t false) S)
def u55_1 := k2 fun a c => c
def u55_2 (C : CU) := m2 fun a c S κ =>
 uNilc a S fun v0 S =>
 uFad 3 v0 S fun v1 S =>
 uFad 3 v1 S fun v2 S =>
 uSt 1 v2 (.t true) S fun v3 S =>
 κ a c S
def u55_3 (C : CU) := m2 fun a c S κ =>
 uNilc a S fun v0 S =>
 uFad 0 v0 S fun v1 S =>
 uNilc a S fun v2 S =>
 uFad 0 v2 S fun v3 S =>
 uCall C 81 [v3] S fun v4 S =>
 uCall C 80 [v1, v4] S fun v5 S =>
 uNilc a S fun v6 S =>
 uFad 3 v6 S fun v7 S =>
 uFad 0 v7 S fun v8 S =>
 uSt 1 v8 v5 S fun v9 S =>
 κ a c S
def u55_4 (C : CU) := m2 fun a c S κ =>
 uNilc a S fun v0 S =>
 uFad 0 v0 S fun v1 S =>
 uNilc a S fun v2 S =>
 uFad 0 v2 S fun v3 S =>
 uCall C 83 [v3] S fun v4 S =>
 uCall C 82 [v1, v4] S fun v5 S =>
 uNilc a S fun v6 S =>
 uFad 3 v6 S fun v7 S =>
 uFad 1 v7 S fun v8 S =>
 uSt 1 v8 v5 S fun v9 S =>
 κ a c S
def u55_5 (C : CU) := m2 fun a c S κ =>
 uNilc a S fun v0 S =>
 uFad 0 v0 S fun v1 S =>
 uCall C 84 [v1, (.n 128)] S fun v2 S =>
 κ a c S
def u55_6 (C : CU) := m2 fun a c S κ =>
 uNilc a S fun v0 S =>
 uFad 0 v0 S fun v1 S =>
 uCall C 84 [v1, (.n 1)] S fun v2 S =>
 κ a c S
def u55_7 (C : CU) := m2 fun a c S κ =>
 uNilc a S fun v0 S =>
 uFad 0 v0 S fun v1 S =>
 uCall C 84 [v1, (.n 0)] S fun v2 S =>
 κ a c S
def u55_8 (C : CU) := m2 fun a c S κ =>
 uNilc a S fun v0 S =>
 uFad 0 v0 S fun v1 S =>
 uNilc a S fun v2 S =>
 uFad 0 v2 S fun v3 S =>
 uCall C 83 [v3] S fun v4 S =>
 uCall C 82 [v1, v4] S fun v5 S =>
 uNilc a S fun v6 S =>
 uFad 3 v6 S fun v7 S =>
 uFad 1 v7 S fun v8 S =>
 uSt 1 v8 v5 S fun v9 S =>
 κ a c S
def u55_9 (C : CU) := m2 fun a c S κ =>
 uNilc a S fun v0 S =>
 uFad 0 v0 S fun v1 S =>
 uNilc a S fun v2 S =>
 uFad 0 v2 S fun v3 S =>
 uCall C 81 [v3] S fun v4 S =>
 uCall C 80 [v1, v4] S fun v5 S =>
 uNilc a S fun v6 S =>
 uFad 3 v6 S fun v7 S =>
 uFad 0 v7 S fun v8 S =>
 uSt 1 v8 v5 S fun v9 S =>
 κ a c S
def u55_10 (C : CU) := m2 fun a c S κ =>
 uNilc a S fun v0 S =>
 uFad 0 v0 S fun v1 S =>
 uCall C 81 [v1] S fun v2 S =>
 uCvI .u32 v2 S fun v3 S =>
 uCvI .i32 v3 S fun v4 S =>
 uNilc a S fun v5 S =>
 uFad 3 v5 S fun v6 S =>
 uFad 2 v6 S fun v7 S =>
 uSt 1 v7 v4 S fun v8 S =>
 κ a c S
def u55r (v : W2) (S : FAW) : RU := W2.rec (motive := fun _ => RU) (fun a c => .ok (.u []) S) v
def u55b (C : CU) (n : Nat) : CdU W2 := seqU (seqU (u55_0 C) (condU u55_1 (seqU (u55_2 C) (seqU (u55_3 C) (u55_4 C))) (seqU (u55_5 C) (seqU (u55_6 C) (seqU (u55_7 C) (seqU (u55_8 C) (u55_9 C))))))) (u55_10 C)
def u55 : Fu := fun C n args S => u55b C n ((fu2 0 18).ent (argU args)) S fun o v S => exU o (u55r v S) (fun _ => .no) (u55r v S)
/-! (*assayer/msg.reader).compact -/
def u56_0 (C : CU) := m2 fun a c S κ =>
 uNilc a S fun v0 S =>
 uFad 0 v0 S fun v1 S =>
 uCall C 84 [v1, (.n 130)] S fun v2 S =>
 κ a c S
def u56_1 (C : CU) := m2 fun a c S κ =>
 uNilc a S fun v0 S =>
 uFad 0 v0 S fun v1 S =>
 uCall C 83 [v1] S fun v2 S =>
 κ a v2 S
def u56_2 (C : CU) := m2 fun a c S κ =>
 uNilc a S fun v0 S =>
 uFad 0 v0 S fun v1 S =>
 uSlow .and c (.n 31) S fun v2 S =>
 uEq true .neq v2 (.n 1) S fun v3 S =>
 uCall C 57 [v1, v3, (.n 2)] S fun v4 S =>
 κ a c S
def u56_3 (C : CU) := m2 fun a c S κ =>
 uNilc a S fun v0 S =>
 uFad 0 v0 S fun v1 S =>
 uSlow .shr c (.i .u64 5) S fun v2 S =>
 uCall C 82 [v1, v2] S fun v3 S =>
 uNilc a S fun v4 S =>
 uFad 3 v4 S fun v5 S =>
 uFad 1 v5 S fun v6 S =>
 uSt 1 v6 v3 S fun v7 S =>
 κ a c S
def u56_4 (C : CU) := m2 fun a c S κ =>
 uNilc a S fun v0 S =>
 uFad 0 v0 S fun v1 S =>
 uCall C 85 [v1] S fun v2 S =>
 uCvI .u32 v2 S fun v3 S =>
 uCvI .i32 v3 S fun v4 S =>
 uNilc a S fun v5 S =>
 uFad 3 v5 S fun v6 S =>
 uFad 2 v6 S fun v7 S =>
 uSt 1 v7 v4 S fun v8 S =>
 κ a c S
def u56_5 (C : CU) := m2 fun a c S κ =>
 uNilc a S fun v0 S =>
 uFad 0 v0 S fun v1 S =>
 uNilc a S fun v2 S =>
 uFad 0 v2 S fun v3 S =>
 uCall C 85 [v3] S fun v4 S =>
 uCall C 80 [v1, v4] S fun v5 S =>
 uNilc a S fun v6 S =>
 uFad 3 v6 S fun v7 S =>
 uFad 0 v7 S fun v8 S =>
 uSt 1 v8 v5 S fun v9 S =>
 κ a c S
def u56r (v : W2) (S : FAW) : RU := W2.rec (motive := fun _ => RU) (fun a c => .ok (.u []) S) v
def u56b (C : CU) (n : Nat) : CdU W2 := seqU (u56_0 C) (seqU (u56_1 C) (seqU (u56_2 C) (seqU (u56_3 C) (seqU (u56_4 C) (u56_5 C)))))
def u56 : Fu := fun C n args S => u56b C n ((fu2 0 2).ent (argU args)) S fun o v S => exU o (u56r v S) (fun _ => .no) (u56r v S)
/-! (*assayer/msg.cursor).fails -/
def u57_0 (C : CU) := m4 fun a c d e S κ =>
 eT c fun b => cn b
 (uGet 2 a S fun v2 S =>
 uEq false .eql v2 (.n 0) S fun v3 S =>
 κ a c d v3 S)
 (κ a c d (.t false) S)
def u57_1 := k4 fun a c d e => e
def u57_2 (C : CU) := m4 fun a c d e S κ =>
 uNilc a S fun v0 S =>
 uFad 2 v0 S fun v1 S =>
 uSt 1 v1 d S fun v2 S =>
 κ a c d e S
def u57r (v : W4) (S : FAW) : RU := W4.rec (motive := fun _ => RU) (fun a c d e => .ok (.u []) S) v
def u57b (C : CU) (n : Nat) : CdU W4 := seqU (u57_0 C) (condU u57_1 (u57_2 C) (skipU))
def u57 : Fu := fun C n args S => u57b C n ((fu4 0 1 2 13).ent (argU args)) S fun o v S => exU o (u57r v S) (fun _ => .no) (u57r v S)
/-! (*assayer/assayerref19.reader).want -/
def u58_0 (C : CU) := m3 fun a c d S κ =>
 uCall C 59 [a, (.n 1)] S fun v0 S =>
 uCvI .u8 v0 S fun v1 S =>
 uEq true .neq v1 c S fun v2 S =>
 κ a c v2 S
def u58_1 := k3 fun a c d => d
def u58_2 (C : CU) := m3 fun a c d S κ =>
 uCall C 86 [a, (.n 2)] S fun v0 S =>
 κ a c d S
def u58r (v : W3) (S : FAW) : RU := W3.rec (motive := fun _ => RU) (fun a c d => .ok (.u []) S) v
def u58b (C : CU) (n : Nat) : CdU W3 := seqU (u58_0 C) (condU u58_1 (u58_2 C) (skipU))
def u58 : Fu := fun C n args S => u58b C n ((fu3 0 1 8).ent (argU args)) S fun o v S => exU o (u58r v S) (fun _ => .no) (u58r v S)
/-! (*assayer/assayerref19.reader).num -/
def u59_0 (C : CU) := m6 fun a c d e f g S κ =>
 κ a c (.i .u64 0) e f g S
def u59_1 (C : CU) := m6 fun a c d e f g S κ =>
 uCvI .u64 c S fun v0 S =>
 uCall C 87 [a, v0] S fun v1 S =>
 κ a c d v1 f g S
def u59_2 (C : CU) := m6 fun a c d e f g S κ =>
 uGet 8 a S fun v2 S =>
 uEq true .neq v2 (.n 0) S fun v3 S =>
 κ a c d e f v3 S
def u59_3 := k6 fun a c d e f g => g
def u59_4 (C : CU) := m6 fun a c d e f g S κ =>
 κ a c (.i .u64 0) e f g S
def u59_5 (C : CU) := m6 fun a c d e f g S κ =>
 uCall C 88 [e, c] S fun v0 S =>
 uExt 0 v0 S fun v1 S =>
 uExt 1 v0 S fun v2 S =>
 κ a c d e v1 g S
def u59_6 (C : CU) := m6 fun a c d e f g S κ =>
 κ a c f e f g S
def u59r (v : W6) (S : FAW) : RU := W6.rec (motive := fun _ => RU) (fun a c d e f g => .ok d S) v
def u59b (C : CU) (n : Nat) : CdU W6 := seqU (u59_0 C) (seqU (u59_1 C) (seqU (seqU (u59_2 C) (condU u59_3 (seqU (u59_4 C) (retU)) (skipU))) (seqU (u59_5 C) (seqU (u59_6 C) (retU)))))
def u59 : Fu := fun C n args S => u59b C n ((fu6 0 1 4 5 6 16).ent (argU args)) S fun o v S => exU o (u59r v S) (fun _ => .no) (u59r v S)
/-! (*assayer/assayerref19.reader).kind -/
def u60_0 (C : CU) := m3 fun a c d S κ =>
 uGet 8 a S fun v2 S =>
 uEq false .eql v2 (.n 0) S fun v3 S =>
 eT v3 fun b => cn b
 (uCmp ltN .lss c (.n 1) S fun v4 S =>
 eT v4 fun b => cn b
 (κ a c (.t true) S)
 (uCmp (fun a b => ltN b a) .gtr c (.n 4) S fun v5 S =>
 κ a c v5 S))
 (κ a c (.t false) S)
def u60_1 := k3 fun a c d => d
def u60_2 (C : CU) := m3 fun a c d S κ =>
 uNilc a S fun v0 S =>
 uFad 8 v0 S fun v1 S =>
 uSt 1 v1 (.n 2) S fun v2 S =>
 κ a c d S
def u60r (v : W3) (S : FAW) : RU := W3.rec (motive := fun _ => RU) (fun a c d => .ok (.u []) S) v
def u60b (C : CU) (n : Nat) : CdU W3 := seqU (u60_0 C) (condU u60_1 (u60_2 C) (skipU))
def u60 : Fu := fun C n args S => u60b C n ((fu3 0 1 16).ent (argU args)) S fun o v S => exU o (u60r v S) (fun _ => .no) (u60r v S)
/-! (*assayer/assayerref19.reader).varint -/
def u61_0 (C : CU) := m10 fun a c d e f g h i j k S κ =>
 κ a c (.i .u64 0) e f g h i j k S
def u61_1 (C : CU) := m10 fun a c d e f g h i j k S κ =>
 uGet 5 a S fun v2 S =>
 κ a c d v2 f g h i j k S
def u61_2 (C : CU) := m10 fun a c d e f g h i j k S κ =>
 uCall C 87 [a, (.i .u64 1)] S fun v0 S =>
 κ a c d e f g h i j k S
def u61_3 (C : CU) := m10 fun a c d e f g h i j k S κ =>
 uGet 8 a S fun v2 S =>
 uEq true .neq v2 (.n 0) S fun v3 S =>
 κ a c d e f g v3 i j k S
def u61_4 := k10 fun a c d e f g h i j k => h
def u61_5 (C : CU) := m10 fun a c d e f g h i j k S κ =>
 κ a c (.i .u64 0) e f g h i j k S
def u61_6 (C : CU) := m10 fun a c d e f g h i j k S κ =>
 uGet 4 a S fun v2 S =>
 uGet 5 a S fun v5 S =>
 uSlV 1 v2 (some e) (some v5) none S fun v6 S =>
 uCall C 89 [v6, c] S fun v7 S =>
 uExt 0 v7 S fun v8 S =>
 uExt 1 v7 S fun v9 S =>
 uExt 2 v7 S fun v10 S =>
 κ a c d e v8 v10 h i j k S
def u61_7 (C : CU) := m10 fun a c d e f g h i j k S κ =>
 κ a c d e f g h g j k S
def u61_8 (C : CU) := m10 fun a c d e f g h i j k S κ =>
 uEq false .eql i (.n 0) S fun v0 S =>
 κ a c d e f g h i v0 k S
def u61_9 := k10 fun a c d e f g h i j k => j
def u61_10 (C : CU) := m10 fun a c d e f g h i j k S κ =>
 κ a c f e f g h i j k S
def u61_11 (C : CU) := m10 fun a c d e f g h i j k S κ =>
 uEq false .eql i (.n 4) S fun v0 S =>
 κ a c d e f g h i j v0 S
def u61_12 := k10 fun a c d e f g h i j k => k
def u61_13 (C : CU) := m10 fun a c d e f g h i j k S κ =>
 uNilc a S fun v0 S =>
 uFad 8 v0 S fun v1 S =>
 uSt 1 v1 (.n 2) S fun v2 S =>
 κ a c d e f g h i j k S
def u61_14 (C : CU) := m10 fun a c d e f g h i j k S κ =>
 κ a c (.i .u64 0) e f g h i j k S
def u61_15 (C : CU) (n : Nat) : CdU W10 := blockU 1 (seqU (u61_2 C) (seqU (seqU (u61_3 C) (condU u61_4 (seqU (u61_5 C) (retU)) (skipU))) (seqU (u61_6 C) (seqU (u61_7 C) (blockU 2 (seqU (u61_8 C) (condU u61_9 (seqU (u61_10 C) (retU)) (seqU (u61_11 C) (condU u61_12 (seqU (u61_13 C) (seqU (u61_14 C) (retU))) (skipU))))))))))
def u61r (v : W10) (S : FAW) : RU := W10.rec (motive := fun _ => RU) (fun a c d e f g h i j k => .ok d S) v
def u61b (C : CU) (n : Nat) : CdU W10 := seqU (u61_0 C) (seqU (u61_1 C) (blockU 0 (loopU n (u61_15 C n))))
def u61 : Fu := fun C n args S => u61b C n ((fu10 0 1 4 5 6 8 19 36 37 40).ent (argU args)) S fun o v S => exU o (u61r v S) (fun _ => .no) (u61r v S)
/-! (*assayer/assayerref19.reader).name -/
def u62_0 (C : CU) := m4 fun a c d e S κ =>
 κ a c (.s []) e S
def u62_1 (C : CU) := m4 fun a c d e S κ =>
 uGet 8 a S fun v2 S =>
 uEq false .eql v2 (.n 0) S fun v3 S =>
 eT v3 fun b => cn b
 (uCmp (fun a b => ltN b a) .gtr c (.i .u64 40) S fun v4 S =>
 κ a c d v4 S)
 (κ a c d (.t false) S)
def u62_2 := k4 fun a c d e => e
def u62_3 (C : CU) := m4 fun a c d e S κ =>
 uNilc a S fun v0 S =>
 uFad 8 v0 S fun v1 S =>
 uSt 1 v1 (.n 4) S fun v2 S =>
 κ a c d e S
def u62_4 (C : CU) := m4 fun a c d e S κ =>
 uCall C 87 [a, c] S fun v0 S =>
 uCvBS v0 S fun v1 S =>
 κ a c v1 e S
def u62r (v : W4) (S : FAW) : RU := W4.rec (motive := fun _ => RU) (fun a c d e => .ok d S) v
def u62b (C : CU) (n : Nat) : CdU W4 := seqU (u62_0 C) (seqU (seqU (u62_1 C) (condU u62_2 (u62_3 C) (skipU))) (seqU (u62_4 C) (retU)))
def u62 : Fu := fun C n args S => u62b C n ((fu4 0 1 4 13).ent (argU args)) S fun o v S => exU o (u62r v S) (fun _ => .no) (u62r v S)
/-! assayer/msg.may -/
def u63_0 (C : CU) := m2 fun a c S κ =>
 κ a (.t false) S
def u63_1 (C : CU) := m2 fun a c S κ =>
 uCmp (fun a b => Nat.ble b a) .geq a (.n 1) S fun v0 S =>
 eT v0 fun b => cn b
 (uCmp Nat.ble .leq a (.n 4) S fun v1 S =>
 κ a v1 S)
 (κ a (.t false) S)
def u63r (v : W2) (S : FAW) : RU := W2.rec (motive := fun _ => RU) (fun a c => .ok c S) v
def u63b (C : CU) (n : Nat) : CdU W2 := seqU (u63_0 C) (seqU (u63_1 C) (retU))
def u63 : Fu := fun C n args S => u63b C n ((fu2 0 2).ent (argU args)) S fun o v S => exU o (u63r v S) (fun _ => .no) (u63r v S)
/-! assayer/octet.Put -/
def u64_0 (C : CU) := m8 fun a c d e f g h i S κ =>
 κ a c d .nl f g h i S
def u64_1 (C : CU) := m8 fun a c d e f g h i S κ =>
 uCmp ltN .lss d (.n 0) S fun v0 S =>
 eT v0 fun b => cn b
 (κ a c d e f g (.t true) i S)
 (uCmp (fun a b => ltN b a) .gtr d (.n 8) S fun v1 S =>
 κ a c d e f g v1 i S)
def u64_2 := k8 fun a c d e f g h i => h
def u64_3 (C : CU) := m8 fun a c d e f g h i S κ =>
 κ a c (.n 0) e f g h i S
def u64_4 (C : CU) := m8 fun a c d e f g h i S κ =>
 uLen false a S fun v0 S =>
 uAdd v0 d S fun v1 S =>
 uMksF 5 1 1 [(.b 0)] v1 v1 S fun v2 S =>
 κ a c d e v2 g h i S
def u64_5 (C : CU) := m8 fun a c d e f g h i S κ =>
 uCpy 1 f a S fun v0 S =>
 κ a c d e f g h i S
def u64_6 (C : CU) := m8 fun a c d e f g h i S κ =>
 uLen false f S fun v0 S =>
 uSub v0 (.n 1) S fun v1 S =>
 κ a c d e f v1 h i S
def u64_7 (C : CU) := m8 fun a c d e f g h i S κ =>
 uLen false a S fun v0 S =>
 uCmp (fun a b => Nat.ble b a) .geq g v0 S fun v1 S =>
 κ a c d e f g h v1 S
def u64_8 := k8 fun a c d e f g h i => i
def u64_9 (C : CU) := m8 fun a c d e f g h i S κ =>
 uCvI .u8 c S fun v0 S =>
 uIad 1 f g S fun v1 S =>
 uSt 1 v1 v0 S fun v2 S =>
 κ a c d e f g h i S
def u64_10 (C : CU) := m8 fun a c d e f g h i S κ =>
 uSlow .shr c (.i .u64 8) S fun v0 S =>
 κ a v0 d e f g h i S
def u64_11 (C : CU) := m8 fun a c d e f g h i S κ =>
 uSub g (.n 1) S fun v0 S =>
 κ a c d e f v0 h i S
def u64_12 (C : CU) (n : Nat) : CdU W8 := seqU (seqU (u64_7 C) (condU u64_8 (skipU) (exitU 0))) (seqU (blockU 1 (seqU (u64_9 C) (u64_10 C))) (u64_11 C))
def u64_13 (C : CU) := m8 fun a c d e f g h i S κ =>
 κ a c d f f g h i S
def u64r (v : W8) (S : FAW) : RU := W8.rec (motive := fun _ => RU) (fun a c d e f g h i => .ok e S) v
def u64b (C : CU) (n : Nat) : CdU W8 := seqU (u64_0 C) (seqU (seqU (u64_1 C) (condU u64_2 (u64_3 C) (skipU))) (seqU (u64_4 C) (seqU (u64_5 C) (seqU (seqU (u64_6 C) (blockU 0 (loopU n (u64_12 C n)))) (seqU (u64_13 C) (retU))))))
def u64 : Fu := fun C n args S => u64b C n ((fu8 0 1 2 6 7 8 14 29).ent (argU args)) S fun o v S => exU o (u64r v S) (fun _ => .no) (u64r v S)
/-! assayer/octet.PutText -/
def u65_0 (C : CU) := m3 fun a c d S κ =>
 κ a c .nl S
def u65_1 (C : CU) := m3 fun a c d S κ =>
 uLen true c S fun v0 S =>
 uCvI .u64 v0 S fun v1 S =>
 uCall C 64 [a, v1, (.n 4)] S fun v2 S =>
 uApp 5 1 1 v2 c S fun v3 S =>
 κ a c v3 S
def u65r (v : W3) (S : FAW) : RU := W3.rec (motive := fun _ => RU) (fun a c d => .ok d S) v
def u65b (C : CU) (n : Nat) : CdU W3 := seqU (u65_0 C) (seqU (u65_1 C) (retU))
def u65 : Fu := fun C n args S => u65b C n ((fu3 0 1 4).ent (argU args)) S fun o v S => exU o (u65r v S) (fun _ => .no) (u65r v S)
/-! assayer/zig.Put -/
def u66_0 (C : CU) := m5 fun a c d e f S κ =>
 κ a c .nl e f S
def u66_1 (C : CU) := m5 fun a c d e f S κ =>
 uCall C 90 [a] S fun v0 S =>
 κ a c d v0 f S
def u66_2 (C : CU) := m5 fun a c d e f S κ =>
 uCmp (fun a b => ltN b a) .gtr c (.i .u64 127) S fun v0 S =>
 κ a c d e v0 S
def u66_3 := k5 fun a c d e f => f
def u66_4 (C : CU) := m5 fun a c d e f S κ =>
 uCvI .u8 c S fun v0 S =>
 uSlow .or v0 (.b 128) S fun v1 S =>
 uLitF 5 1 [(.b 0)] 1 [(0, 1, v1)] S fun v2 S =>
 uApp 5 1 1 e v2 S fun v3 S =>
 κ a c d v3 f S
def u66_5 (C : CU) := m5 fun a c d e f S κ =>
 uSlow .shr c (.i .u64 7) S fun v0 S =>
 κ a v0 d e f S
def u66_6 (C : CU) (n : Nat) : CdU W5 := seqU (seqU (u66_2 C) (condU u66_3 (skipU) (exitU 0))) (blockU 1 (seqU (u66_4 C) (u66_5 C)))
def u66_7 (C : CU) := m5 fun a c d e f S κ =>
 uCvI .u8 c S fun v0 S =>
 uLitF 5 1 [(.b 0)] 1 [(0, 1, v0)] S fun v1 S =>
 uApp 5 1 1 e v1 S fun v2 S =>
 κ a c v2 e f S
def u66r (v : W5) (S : FAW) : RU := W5.rec (motive := fun _ => RU) (fun a c d e f => .ok d S) v
def u66b (C : CU) (n : Nat) : CdU W5 := seqU (u66_0 C) (seqU (u66_1 C) (seqU (blockU 0 (loopU n (u66_6 C n))) (seqU (u66_7 C) (retU))))
def u66 : Fu := fun C n args S => u66b C n ((fu5 0 1 4 5 9).ent (argU args)) S fun o v S => exU o (u66r v S) (fun _ => .no) (u66r v S)
/-! (*assayer/msg.cursor).name -/
def u80_0 (C : CU) := m3 fun a c d S κ =>
 κ a c (.s []) S
def u80_1 (C : CU) := m3 fun a c d S κ =>
 uCmp (fun a b => ltN b a) .gtr c (.i .u64 40) S fun v0 S =>
 uCall C 57 [a, v0, (.n 4)] S fun v1 S =>
 κ a c d S
def u80_2 (C : CU) := m3 fun a c d S κ =>
 uCall C 101 [a, c] S fun v0 S =>
 uCvBS v0 S fun v1 S =>
 κ a c v1 S
def u80r (v : W3) (S : FAW) : RU := W3.rec (motive := fun _ => RU) (fun a c d => .ok d S) v
def u80b (C : CU) (n : Nat) : CdU W3 := seqU (u80_0 C) (seqU (u80_1 C) (seqU (u80_2 C) (retU)))
def u80 : Fu := fun C n args S => u80b C n ((fu3 0 1 4).ent (argU args)) S fun o v S => exU o (u80r v S) (fun _ => .no) (u80r v S)
/-! (*assayer/msg.cursor).num -/
def u81_0 (C : CU) := m3 fun a c d S κ =>
 κ a (.i .u64 0) d S
def u81_1 (C : CU) := m3 fun a c d S κ =>
 uCall C 101 [a, (.i .u64 4)] S fun v0 S =>
 uCall C 102 [v0, (.n 4)] S fun v1 S =>
 uExt 0 v1 S fun v2 S =>
 uExt 1 v1 S fun v3 S =>
 κ a c v2 S
def u81_2 (C : CU) := m3 fun a c d S κ =>
 κ a d d S
def u81r (v : W3) (S : FAW) : RU := W3.rec (motive := fun _ => RU) (fun a c d => .ok c S) v
def u81b (C : CU) (n : Nat) : CdU W3 := seqU (u81_0 C) (seqU (u81_1 C) (seqU (u81_2 C) (retU)))
def u81 : Fu := fun C n args S => u81b C n ((fu3 0 2 3).ent (argU args)) S fun o v S => exU o (u81r v S) (fun _ => .no) (u81r v S)
/-! (*assayer/msg.cursor).kind -/
def u82_0 (C : CU) := m3 fun a c d S κ =>
 κ a c (.n 0) S
def u82_1 (C : CU) := m3 fun a c d S κ =>
 uCall C 63 [c] S fun v0 S =>
 uNot v0 S fun v1 S =>
 uCall C 57 [a, v1, (.n 2)] S fun v2 S =>
 κ a c d S
def u82_2 (C : CU) := m3 fun a c d S κ =>
 κ a c c S
def u82r (v : W3) (S : FAW) : RU := W3.rec (motive := fun _ => RU) (fun a c d => .ok d S) v
def u82b (C : CU) (n : Nat) : CdU W3 := seqU (u82_0 C) (seqU (u82_1 C) (seqU (u82_2 C) (retU)))
def u82 : Fu := fun C n args S => u82b C n ((fu3 0 1 4).ent (argU args)) S fun o v S => exU o (u82r v S) (fun _ => .no) (u82r v S)
/-! (*assayer/msg.cursor).byte -/
def u83_0 (C : CU) := m4 fun a c d e S κ =>
 κ a (.n 0) d e S
def u83_1 (C : CU) := m4 fun a c d e S κ =>
 uCall C 101 [a, (.i .u64 1)] S fun v0 S =>
 κ a c v0 e S
def u83_2 (C : CU) := m4 fun a c d e S κ =>
 uGet 2 a S fun v2 S =>
 uEq true .neq v2 (.n 0) S fun v3 S =>
 κ a c d v3 S
def u83_3 := k4 fun a c d e => e
def u83_4 (C : CU) := m4 fun a c d e S κ =>
 κ a (.n 0) d e S
def u83_5 (C : CU) := m4 fun a c d e S κ =>
 uIad 1 d (.n 0) S fun v0 S =>
 uLd none v0 S fun v1 S =>
 uCvI .i64 v1 S fun v2 S =>
 κ a v2 d e S
def u83r (v : W4) (S : FAW) : RU := W4.rec (motive := fun _ => RU) (fun a c d e => .ok c S) v
def u83b (C : CU) (n : Nat) : CdU W4 := seqU (u83_0 C) (seqU (u83_1 C) (seqU (seqU (u83_2 C) (condU u83_3 (seqU (u83_4 C) (retU)) (skipU))) (seqU (u83_5 C) (retU))))
def u83 : Fu := fun C n args S => u83b C n ((fu4 0 2 3 10).ent (argU args)) S fun o v S => exU o (u83r v S) (fun _ => .no) (u83r v S)
/-! (*assayer/msg.cursor).is -/
def u84_0 (C : CU) := m2 fun a c S κ =>
 uCall C 83 [a] S fun v0 S =>
 uEq true .neq v0 c S fun v1 S =>
 uCall C 57 [a, v1, (.n 2)] S fun v2 S =>
 κ a c S
def u84r (v : W2) (S : FAW) : RU := W2.rec (motive := fun _ => RU) (fun a c => .ok (.u []) S) v
def u84b (C : CU) (n : Nat) : CdU W2 := u84_0 C
def u84 : Fu := fun C n args S => u84b C n ((fu2 0 1).ent (argU args)) S fun o v S => exU o (u84r v S) (fun _ => .no) (u84r v S)
/-! (*assayer/msg.cursor).seven -/
def u85_0 (C : CU) := m6 fun a c d e f g S κ =>
 κ a (.i .u64 0) d e f g S
def u85_1 (C : CU) := m6 fun a c d e f g S κ =>
 uGet 2 a S fun v2 S =>
 uEq true .neq v2 (.n 0) S fun v3 S =>
 κ a c d e f v3 S
def u85_2 := k6 fun a c d e f g => g
def u85_3 (C : CU) := m6 fun a c d e f g S κ =>
 κ a (.i .u64 0) d e f g S
def u85_4 (C : CU) := m6 fun a c d e f g S κ =>
 uGet 0 a S fun v2 S =>
 uGet 1 a S fun v5 S =>
 uSlV 1 v2 (some v5) none none S fun v6 S =>
 uCall C 103 [v6, (.n 32)] S fun v7 S =>
 uExt 0 v7 S fun v8 S =>
 uExt 1 v7 S fun v9 S =>
 uExt 2 v7 S fun v10 S =>
 κ a c v8 v9 v10 g S
def u85_5 (C : CU) := m6 fun a c d e f g S κ =>
 uEq false .eql f (.n 4) S fun v0 S =>
 uCall C 57 [a, v0, (.n 2)] S fun v1 S =>
 κ a c d e f g S
def u85_6 (C : CU) := m6 fun a c d e f g S κ =>
 uEq true .neq f (.n 0) S fun v0 S =>
 uCall C 57 [a, v0, f] S fun v1 S =>
 κ a c d e f g S
def u85_7 (C : CU) := m6 fun a c d e f g S κ =>
 uGet 1 a S fun v2 S =>
 uAdd v2 e S fun v3 S =>
 uNilc a S fun v4 S =>
 uFad 1 v4 S fun v5 S =>
 uSt 1 v5 v3 S fun v6 S =>
 κ a c d e f g S
def u85_8 (C : CU) := m6 fun a c d e f g S κ =>
 κ a d d e f g S
def u85r (v : W6) (S : FAW) : RU := W6.rec (motive := fun _ => RU) (fun a c d e f g => .ok c S) v
def u85b (C : CU) (n : Nat) : CdU W6 := seqU (u85_0 C) (seqU (seqU (u85_1 C) (condU u85_2 (seqU (u85_3 C) (retU)) (skipU))) (seqU (u85_4 C) (seqU (u85_5 C) (seqU (u85_6 C) (seqU (u85_7 C) (seqU (u85_8 C) (retU)))))))
def u85 : Fu := fun C n args S => u85b C n ((fu6 0 2 3 4 5 10).ent (argU args)) S fun o v S => exU o (u85r v S) (fun _ => .no) (u85r v S)
/-! (*assayer/assayerref19.reader).fail -/
def u86_0 (C : CU) := m3 fun a c d S κ =>
 uGet 8 a S fun v2 S =>
 uEq false .eql v2 (.n 0) S fun v3 S =>
 κ a c v3 S
def u86_1 := k3 fun a c d => d
def u86_2 (C : CU) := m3 fun a c d S κ =>
 uNilc a S fun v0 S =>
 uFad 8 v0 S fun v1 S =>
 uSt 1 v1 c S fun v2 S =>
 κ a c d S
def u86r (v : W3) (S : FAW) : RU := W3.rec (motive := fun _ => RU) (fun a c d => .ok (.u []) S) v
def u86b (C : CU) (n : Nat) : CdU W3 := seqU (u86_0 C) (condU u86_1 (u86_2 C) (skipU))
def u86 : Fu := fun C n args S => u86b C n ((fu3 0 1 8).ent (argU args)) S fun o v S => exU o (u86r v S) (fun _ => .no) (u86r v S)
/-! (*assayer/assayerref19.reader).take -/
def u87_0 (C : CU) := m7 fun a c d e f g h S κ =>
 κ a c .nl e f g h S
def u87_1 (C : CU) := m7 fun a c d e f g h S κ =>
 uGet 8 a S fun v2 S =>
 uEq true .neq v2 (.n 0) S fun v3 S =>
 κ a c d e v3 g h S
def u87_2 := k7 fun a c d e f g h => f
def u87_3 (C : CU) := m7 fun a c d e f g h S κ =>
 κ a c .nl e f g h S
def u87_4 (C : CU) := m7 fun a c d e f g h S κ =>
 uNilc a S fun v0 S =>
 uFad 6 v0 S fun v1 S =>
 uFad 1 v1 S fun v2 S =>
 uLd none v2 S fun v3 S =>
 uGet 5 a S fun v6 S =>
 uCmp ltN .lss v3 v6 S fun v7 S =>
 eT v7 fun b => cn b
 (κ a c d e f (.t true) h S)
 (uNilc a S fun v8 S =>
 uFad 6 v8 S fun v9 S =>
 uFad 1 v9 S fun v10 S =>
 uLd none v10 S fun v11 S =>
 uGet 5 a S fun v14 S =>
 uSub v11 v14 S fun v15 S =>
 uCvI .u64 v15 S fun v16 S =>
 uCmp (fun a b => ltN b a) .gtr c v16 S fun v17 S =>
 κ a c d e f v17 h S)
def u87_5 := k7 fun a c d e f g h => g
def u87_6 (C : CU) := m7 fun a c d e f g h S κ =>
 uNilc a S fun v0 S =>
 uFad 8 v0 S fun v1 S =>
 uSt 1 v1 (.n 4) S fun v2 S =>
 κ a c d e f g h S
def u87_7 (C : CU) := m7 fun a c d e f g h S κ =>
 κ a c .nl e f g h S
def u87_8 (C : CU) := m7 fun a c d e f g h S κ =>
 uGet 4 a S fun v2 S =>
 uLen false v2 S fun v3 S =>
 uGet 5 a S fun v6 S =>
 uSub v3 v6 S fun v7 S =>
 uCvI .u64 v7 S fun v8 S =>
 uCmp (fun a b => ltN b a) .gtr c v8 S fun v9 S =>
 κ a c d e f g v9 S
def u87_9 := k7 fun a c d e f g h => h
def u87_10 (C : CU) := m7 fun a c d e f g h S κ =>
 uNilc a S fun v0 S =>
 uFad 8 v0 S fun v1 S =>
 uSt 1 v1 (.n 3) S fun v2 S =>
 κ a c d e f g h S
def u87_11 (C : CU) := m7 fun a c d e f g h S κ =>
 κ a c .nl e f g h S
def u87_12 (C : CU) := m7 fun a c d e f g h S κ =>
 uGet 4 a S fun v2 S =>
 uGet 5 a S fun v5 S =>
 uGet 5 a S fun v8 S =>
 uCvI .i64 c S fun v9 S =>
 uAdd v8 v9 S fun v10 S =>
 uSlV 1 v2 (some v5) (some v10) none S fun v11 S =>
 κ a c d v11 f g h S
def u87_13 (C : CU) := m7 fun a c d e f g h S κ =>
 uGet 5 a S fun v2 S =>
 uCvI .i64 c S fun v3 S =>
 uAdd v2 v3 S fun v4 S =>
 uNilc a S fun v5 S =>
 uFad 5 v5 S fun v6 S =>
 uSt 1 v6 v4 S fun v7 S =>
 κ a c d e f g h S
def u87_14 (C : CU) := m7 fun a c d e f g h S κ =>
 κ a c e e f g h S
def u87r (v : W7) (S : FAW) : RU := W7.rec (motive := fun _ => RU) (fun a c d e f g h => .ok d S) v
def u87b (C : CU) (n : Nat) : CdU W7 := seqU (u87_0 C) (seqU (seqU (u87_1 C) (condU u87_2 (seqU (u87_3 C) (retU)) (skipU))) (seqU (seqU (u87_4 C) (condU u87_5 (seqU (u87_6 C) (seqU (u87_7 C) (retU))) (skipU))) (seqU (seqU (u87_8 C) (condU u87_9 (seqU (u87_10 C) (seqU (u87_11 C) (retU))) (skipU))) (seqU (u87_12 C) (seqU (u87_13 C) (seqU (u87_14 C) (retU)))))))
def u87 : Fu := fun C n args S => u87b C n ((fu7 0 1 4 5 10 35 51).ent (argU args)) S fun o v S => exU o (u87r v S) (fun _ => .no) (u87r v S)
/-! assayer/assayerref1.Take -/
def u88_0 (C : CU) := m9 fun a c d e f g h i j S κ =>
 κ a c (.i .u64 0) (.n 0) f g h i j S
def u88_1 (C : CU) := m9 fun a c d e f g h i j S κ =>
 uCmp ltN .lss c (.n 0) S fun v0 S =>
 eT v0 fun b => cn b
 (κ a c d e f g (.t true) i j S)
 (uCmp (fun a b => ltN b a) .gtr c (.n 8) S fun v1 S =>
 κ a c d e f g v1 i j S)
def u88_2 := k9 fun a c d e f g h i j => h
def u88_3 (C : CU) := m9 fun a c d e f g h i j S κ =>
 κ a c (.i .u64 0) (.n 1) f g h i j S
def u88_4 (C : CU) := m9 fun a c d e f g h i j S κ =>
 uLen false a S fun v0 S =>
 uCmp (fun a b => ltN b a) .gtr c v0 S fun v1 S =>
 κ a c d e f g h v1 j S
def u88_5 := k9 fun a c d e f g h i j => i
def u88_6 (C : CU) := m9 fun a c d e f g h i j S κ =>
 κ a c (.i .u64 0) (.n 3) f g h i j S
def u88_7 (C : CU) := m9 fun a c d e f g h i j S κ =>
 κ a c d e (.i .u64 0) g h i j S
def u88_8 (C : CU) := m9 fun a c d e f g h i j S κ =>
 κ a c d e f (.n 0) h i j S
def u88_9 (C : CU) := m9 fun a c d e f g h i j S κ =>
 uCmp ltN .lss g c S fun v0 S =>
 κ a c d e f g h i v0 S
def u88_10 := k9 fun a c d e f g h i j => j
def u88_11 (C : CU) := m9 fun a c d e f g h i j S κ =>
 uMul f (.i .u64 256) S fun v0 S =>
 uIad 1 a g S fun v1 S =>
 uLd none v1 S fun v2 S =>
 uCvI .u64 v2 S fun v3 S =>
 uAdd v0 v3 S fun v4 S =>
 κ a c d e v4 g h i j S
def u88_12 (C : CU) := m9 fun a c d e f g h i j S κ =>
 uAdd g (.n 1) S fun v0 S =>
 κ a c d e f v0 h i j S
def u88_13 (C : CU) (n : Nat) : CdU W9 := seqU (seqU (u88_9 C) (condU u88_10 (skipU) (exitU 1))) (seqU (blockU 2 (u88_11 C)) (u88_12 C))
def u88_14 (C : CU) := m9 fun a c d e f g h i j S κ =>
 κ a c f (.n 0) f g h i j S
def u88r (v : W9) (S : FAW) : RU := W9.rec (motive := fun _ => RU) (fun a c d e f g h i j => .ok (.u [d, e]) S) v
def u88b (C : CU) (n : Nat) : CdU W9 := seqU (u88_0 C) (seqU (blockU 0 (seqU (u88_1 C) (condU u88_2 (seqU (u88_3 C) (retU)) (seqU (u88_4 C) (condU u88_5 (seqU (u88_6 C) (retU)) (skipU)))))) (seqU (u88_7 C) (seqU (seqU (u88_8 C) (blockU 1 (loopU n (u88_13 C n)))) (seqU (u88_14 C) (retU)))))
def u88 : Fu := fun C n args S => u88b C n ((fu9 0 1 4 5 6 7 8 15 22).ent (argU args)) S fun o v S => exU o (u88r v S) (fun _ => .no) (u88r v S)
/-! assayer/assayerref1.TakeVar -/
def u89_0 (C : CU) := m14 fun a c d e f g h i j k l m o p S κ =>
 κ a c (.i .u64 0) (.n 0) (.n 0) g h i j k l m o p S
def u89_1 (C : CU) := m14 fun a c d e f g h i j k l m o p S κ =>
 uCmp ltN .lss c (.n 1) S fun v0 S =>
 eT v0 fun b => cn b
 (κ a c d e f g h i j (.t true) l m o p S)
 (uCmp (fun a b => ltN b a) .gtr c (.n 64) S fun v1 S =>
 κ a c d e f g h i j v1 l m o p S)
def u89_2 := k14 fun a c d e f g h i j k l m o p => k
def u89_3 (C : CU) := m14 fun a c d e f g h i j k l m o p S κ =>
 κ a c (.i .u64 0) (.n 0) (.n 1) g h i j k l m o p S
def u89_4 (C : CU) := m14 fun a c d e f g h i j k l m o p S κ =>
 κ a c d e f (.i .u64 0) h i j k l m o p S
def u89_5 (C : CU) := m14 fun a c d e f g h i j k l m o p S κ =>
 κ a c d e f g (.n 0) i j k l m o p S
def u89_6 (C : CU) := m14 fun a c d e f g h i j k l m o p S κ =>
 uLen false a S fun v0 S =>
 uCmp (fun a b => Nat.ble b a) .geq h v0 S fun v1 S =>
 κ a c d e f g h i j k v1 m o p S
def u89_7 := k14 fun a c d e f g h i j k l m o p => l
def u89_8 (C : CU) := m14 fun a c d e f g h i j k l m o p S κ =>
 uMul (.n 7) h S fun v0 S =>
 uCmp (fun a b => Nat.ble b a) .geq v0 c S fun v1 S =>
 κ a c d e f g h i j k l v1 o p S
def u89_9 := k14 fun a c d e f g h i j k l m o p => m
def u89_10 (C : CU) := m14 fun a c d e f g h i j k l m o p S κ =>
 κ a c (.i .u64 0) (.n 0) (.n 4) g h i j k l m o p S
def u89_11 (C : CU) := m14 fun a c d e f g h i j k l m o p S κ =>
 κ a c (.i .u64 0) (.n 0) (.n 3) g h i j k l m o p S
def u89_12 (C : CU) := m14 fun a c d e f g h i j k l m o p S κ =>
 uMul (.n 7) h S fun v0 S =>
 uSub c v0 S fun v1 S =>
 κ a c d e f g h v1 j k l m o p S
def u89_13 (C : CU) := m14 fun a c d e f g h i j k l m o p S κ =>
 uIad 1 a h S fun v0 S =>
 uLd none v0 S fun v1 S =>
 uQuo false .rem v1 (.b 128) S fun v2 S =>
 κ a c d e f g h i v2 k l m o p S
def u89_14 (C : CU) := m14 fun a c d e f g h i j k l m o p S κ =>
 uCmp Nat.ble .leq i (.n 0) S fun v0 S =>
 eT v0 fun b => cn b
 (κ a c d e f g h i j k l m (.t true) p S)
 (uCmp ltN .lss i (.n 7) S fun v1 S =>
 eT v1 fun b => cn b
 (uSlow .shr j i S fun v2 S =>
 uEq true .neq v2 (.b 0) S fun v3 S =>
 eT v3 fun b => cn b
 (κ a c d e f g h i j k l m (.t true) p S)
 (uCmp Nat.ble .leq i (.n 7) S fun v4 S =>
 eT v4 fun b => cn b
 (uIad 1 a h S fun v5 S =>
 uLd none v5 S fun v6 S =>
 uCmp (fun a b => ltN b a) .gtr v6 (.b 127) S fun v7 S =>
 κ a c d e f g h i j k l m v7 p S)
 (κ a c d e f g h i j k l m (.t false) p S)))
 (uCmp Nat.ble .leq i (.n 7) S fun v2 S =>
 eT v2 fun b => cn b
 (uIad 1 a h S fun v3 S =>
 uLd none v3 S fun v4 S =>
 uCmp (fun a b => ltN b a) .gtr v4 (.b 127) S fun v5 S =>
 κ a c d e f g h i j k l m v5 p S)
 (κ a c d e f g h i j k l m (.t false) p S)))
def u89_15 := k14 fun a c d e f g h i j k l m o p => o
def u89_16 (C : CU) := m14 fun a c d e f g h i j k l m o p S κ =>
 κ a c (.i .u64 0) (.n 0) (.n 4) g h i j k l m o p S
def u89_17 (C : CU) := m14 fun a c d e f g h i j k l m o p S κ =>
 uCvI .u64 j S fun v0 S =>
 uMul (.n 7) h S fun v1 S =>
 uSlow .shl v0 v1 S fun v2 S =>
 uSlow .or g v2 S fun v3 S =>
 κ a c d e f v3 h i j k l m o p S
def u89_18 (C : CU) := m14 fun a c d e f g h i j k l m o p S κ =>
 uIad 1 a h S fun v0 S =>
 uLd none v0 S fun v1 S =>
 uCmp ltN .lss v1 (.b 128) S fun v2 S =>
 κ a c d e f g h i j k l m o v2 S
def u89_19 := k14 fun a c d e f g h i j k l m o p => p
def u89_20 (C : CU) := m14 fun a c d e f g h i j k l m o p S κ =>
 uAdd h (.n 1) S fun v0 S =>
 κ a c g v0 (.n 0) g h i j k l m o p S
def u89_21 (C : CU) := m14 fun a c d e f g h i j k l m o p S κ =>
 uAdd h (.n 1) S fun v0 S =>
 κ a c d e f g v0 i j k l m o p S
def u89_22 (C : CU) (n : Nat) : CdU W14 := seqU (blockU 1 (seqU (seqU (u89_6 C) (condU u89_7 (seqU (seqU (u89_8 C) (condU u89_9 (seqU (u89_10 C) (retU)) (skipU))) (seqU (u89_11 C) (retU))) (skipU))) (seqU (u89_12 C) (seqU (u89_13 C) (seqU (seqU (u89_14 C) (condU u89_15 (seqU (u89_16 C) (retU)) (skipU))) (seqU (u89_17 C) (seqU (u89_18 C) (condU u89_19 (seqU (u89_20 C) (retU)) (skipU))))))))) (u89_21 C)
def u89r (v : W14) (S : FAW) : RU := W14.rec (motive := fun _ => RU) (fun a c d e f g h i j k l m o p => .ok (.u [d, e, f]) S) v
def u89b (C : CU) (n : Nat) : CdU W14 := seqU (u89_0 C) (seqU (seqU (u89_1 C) (condU u89_2 (seqU (u89_3 C) (retU)) (skipU))) (seqU (u89_4 C) (seqU (u89_5 C) (blockU 0 (loopU n (u89_22 C n))))))
def u89 : Fu := fun C n args S => u89b C n ((fu14 0 1 4 5 6 7 8 9 10 16 22 26 58 70).ent (argU args)) S fun o v S => exU o (u89r v S) (fun _ => .no) (u89r v S)
/-! slices.Clone[[]byte,byte] -/
def u90_0 (C : CU) := m3 fun a c d S κ =>
 κ a .nl d S
def u90_1 (C : CU) := m3 fun a c d S κ =>
 uEqN 1 false a .nl S fun v0 S =>
 κ a c v0 S
def u90_2 := k3 fun a c d => d
def u90_3 (C : CU) := m3 fun a c d S κ =>
 κ a .nl d S
def u90_4 (C : CU) := m3 fun a c d S κ =>
 uLitF 5 1 [(.b 0)] 0 [] S fun v0 S =>
 uApp 5 1 1 v0 a S fun v1 S =>
 κ a v1 d S
def u90r (v : W3) (S : FAW) : RU := W3.rec (motive := fun _ => RU) (fun a c d => .ok c S) v
def u90b (C : CU) (n : Nat) : CdU W3 := seqU (u90_0 C) (seqU (seqU (u90_1 C) (condU u90_2 (seqU (u90_3 C) (retU)) (skipU))) (seqU (u90_4 C) (retU)))
def u90 : Fu := fun C n args S => u90b C n ((fu3 0 2 4).ent (argU args)) S fun o v S => exU o (u90r v S) (fun _ => .no) (u90r v S)
/-! (*assayer/msg.cursor).bytes -/
def u101_0 (C : CU) := m5 fun a c d e f S κ =>
 κ a c .nl e f S
def u101_1 (C : CU) := m5 fun a c d e f S κ =>
 uGet 0 a S fun v2 S =>
 uLen false v2 S fun v3 S =>
 uGet 1 a S fun v6 S =>
 uSub v3 v6 S fun v7 S =>
 uCvI .u64 v7 S fun v8 S =>
 uCmp (fun a b => ltN b a) .gtr c v8 S fun v9 S =>
 uCall C 57 [a, v9, (.n 3)] S fun v10 S =>
 κ a c d e f S
def u101_2 (C : CU) := m5 fun a c d e f S κ =>
 uGet 2 a S fun v2 S =>
 uEq true .neq v2 (.n 0) S fun v3 S =>
 κ a c d e v3 S
def u101_3 := k5 fun a c d e f => f
def u101_4 (C : CU) := m5 fun a c d e f S κ =>
 κ a c .nl e f S
def u101_5 (C : CU) := m5 fun a c d e f S κ =>
 uGet 0 a S fun v2 S =>
 uGet 1 a S fun v5 S =>
 uGet 1 a S fun v8 S =>
 uCvI .i64 c S fun v9 S =>
 uAdd v8 v9 S fun v10 S =>
 uSlV 1 v2 (some v5) (some v10) none S fun v11 S =>
 κ a c d v11 f S
def u101_6 (C : CU) := m5 fun a c d e f S κ =>
 uGet 1 a S fun v2 S =>
 uCvI .i64 c S fun v3 S =>
 uAdd v2 v3 S fun v4 S =>
 uNilc a S fun v5 S =>
 uFad 1 v5 S fun v6 S =>
 uSt 1 v6 v4 S fun v7 S =>
 κ a c d e f S
def u101_7 (C : CU) := m5 fun a c d e f S κ =>
 κ a c e e f S
def u101r (v : W5) (S : FAW) : RU := W5.rec (motive := fun _ => RU) (fun a c d e f => .ok d S) v
def u101b (C : CU) (n : Nat) : CdU W5 := seqU (u101_0 C) (seqU (u101_1 C) (seqU (seqU (u101_2 C) (condU u101_3 (seqU (u101_4 C) (retU)) (skipU))) (seqU (u101_5 C) (seqU (u101_6 C) (seqU (u101_7 C) (retU))))))
def u101 : Fu := fun C n args S => u101b C n ((fu5 0 1 4 5 25).ent (argU args)) S fun o v S => exU o (u101r v S) (fun _ => .no) (u101r v S)
/-! assayer/octet.Take -/
def u102_0 (C : CU) := m8 fun a c d e f g h i S κ =>
 κ a c (.i .u64 0) (.n 0) f g h i S
def u102_1 (C : CU) := m8 fun a c d e f g h i S κ =>
 uCmp ltN .lss c (.n 0) S fun v0 S =>
 eT v0 fun b => cn b
 (κ a c d e f (.t true) h i S)
 (uCmp (fun a b => ltN b a) .gtr c (.n 8) S fun v1 S =>
 κ a c d e f v1 h i S)
def u102_2 := k8 fun a c d e f g h i => g
def u102_3 (C : CU) := m8 fun a c d e f g h i S κ =>
 κ a c (.i .u64 0) (.n 1) f g h i S
def u102_4 (C : CU) := m8 fun a c d e f g h i S κ =>
 uLen false a S fun v0 S =>
 uCmp (fun a b => ltN b a) .gtr c v0 S fun v1 S =>
 κ a c d e f g v1 i S
def u102_5 := k8 fun a c d e f g h i => h
def u102_6 (C : CU) := m8 fun a c d e f g h i S κ =>
 κ a c (.i .u64 0) (.n 3) f g h i S
def u102_7 (C : CU) := m8 fun a c d e f g h i S κ =>
 uSub c (.n 1) S fun v0 S =>
 uMul (.n 8) v0 S fun v1 S =>
 κ a c d e v1 g h i S
def u102_8 (C : CU) := m8 fun a c d e f g h i S κ =>
 uCmp (fun a b => Nat.ble b a) .geq f (.n 0) S fun v0 S =>
 κ a c d e f g h v0 S
def u102_9 := k8 fun a c d e f g h i => i
def u102_10 (C : CU) := m8 fun a c d e f g h i S κ =>
 uSub c (.n 1) S fun v0 S =>
 uQuo true .quo f (.n 8) S fun v1 S =>
 uSub v0 v1 S fun v2 S =>
 uIad 1 a v2 S fun v3 S =>
 uLd none v3 S fun v4 S =>
 uCvI .u64 v4 S fun v5 S =>
 uSlow .shl v5 f S fun v6 S =>
 uSlow .or d v6 S fun v7 S =>
 κ a c v7 e f g h i S
def u102_11 (C : CU) := m8 fun a c d e f g h i S κ =>
 uSub f (.n 8) S fun v0 S =>
 κ a c d e v0 g h i S
def u102_12 (C : CU) (n : Nat) : CdU W8 := seqU (seqU (u102_8 C) (condU u102_9 (skipU) (exitU 0))) (seqU (blockU 1 (u102_10 C)) (u102_11 C))
def u102_13 (C : CU) := m8 fun a c d e f g h i S κ =>
 κ a c d (.n 0) f g h i S
def u102r (v : W8) (S : FAW) : RU := W8.rec (motive := fun _ => RU) (fun a c d e f g h i => .ok (.u [d, e]) S) v
def u102b (C : CU) (n : Nat) : CdU W8 := seqU (u102_0 C) (seqU (seqU (u102_1 C) (condU u102_2 (seqU (u102_3 C) (retU)) (skipU))) (seqU (seqU (u102_4 C) (condU u102_5 (seqU (u102_6 C) (retU)) (skipU))) (seqU (seqU (u102_7 C) (blockU 0 (loopU n (u102_12 C n)))) (seqU (u102_13 C) (retU)))))
def u102 : Fu := fun C n args S => u102b C n ((fu8 0 1 4 5 6 12 16 21).ent (argU args)) S fun o v S => exU o (u102r v S) (fun _ => .no) (u102r v S)
/-! assayer/zig.Take -/
def u103_0 (C : CU) := m12 fun a c d e f g h i j k l m S κ =>
 κ a c (.i .u64 0) (.n 0) (.n 0) g h i j k l m S
def u103_1 (C : CU) := m12 fun a c d e f g h i j k l m S κ =>
 uCmp ltN .lss c (.n 1) S fun v0 S =>
 eT v0 fun b => cn b
 (κ a c d e f g h i (.t true) k l m S)
 (uCmp (fun a b => ltN b a) .gtr c (.n 64) S fun v1 S =>
 κ a c d e f g h i v1 k l m S)
def u103_2 := k12 fun a c d e f g h i j k l m => j
def u103_3 (C : CU) := m12 fun a c d e f g h i j k l m S κ =>
 κ a c (.i .u64 0) (.n 0) (.n 1) g h i j k l m S
def u103_4 (C : CU) := m12 fun a c d e f g h i j k l m S κ =>
 κ a c d e f (.n 0) h i j k l m S
def u103_5 (C : CU) := m12 fun a c d e f g h i j k l m S κ =>
 uLen false a S fun v0 S =>
 uEq false .eql e v0 S fun v1 S =>
 κ a c d e f g h i j v1 l m S
def u103_6 := k12 fun a c d e f g h i j k l m => k
def u103_7 (C : CU) := m12 fun a c d e f g h i j k l m S κ =>
 κ a c (.i .u64 0) (.n 0) (.n 3) g h i j k l m S
def u103_8 (C : CU) := m12 fun a c d e f g h i j k l m S κ =>
 uIad 1 a e S fun v0 S =>
 uLd none v0 S fun v1 S =>
 κ a c d e f g v1 i j k l m S
def u103_9 (C : CU) := m12 fun a c d e f g h i j k l m S κ =>
 uAdd e (.n 1) S fun v0 S =>
 κ a c d v0 f g h i j k l m S
def u103_10 (C : CU) := m12 fun a c d e f g h i j k l m S κ =>
 uSub c g S fun v0 S =>
 κ a c d e f g h v0 j k l m S
def u103_11 (C : CU) := m12 fun a c d e f g h i j k l m S κ =>
 uCmp Nat.ble .leq i (.n 7) S fun v0 S =>
 eT v0 fun b => cn b
 (uSlow .and h (.b 128) S fun v1 S =>
 uEq true .neq v1 (.b 0) S fun v2 S =>
 eT v2 fun b => cn b
 (κ a c d e f g h i j k (.t true) m S)
 (uSlow .and h (.b 127) S fun v3 S =>
 uCvI .u64 v3 S fun v4 S =>
 uSlow .shr v4 i S fun v5 S =>
 uEq true .neq v5 (.i .u64 0) S fun v6 S =>
 κ a c d e f g h i j k v6 m S))
 (κ a c d e f g h i j k (.t false) m S)
def u103_12 := k12 fun a c d e f g h i j k l m => l
def u103_13 (C : CU) := m12 fun a c d e f g h i j k l m S κ =>
 κ a c (.i .u64 0) (.n 0) (.n 4) g h i j k l m S
def u103_14 (C : CU) := m12 fun a c d e f g h i j k l m S κ =>
 uSlow .and h (.b 127) S fun v0 S =>
 uCvI .u64 v0 S fun v1 S =>
 uSlow .shl v1 g S fun v2 S =>
 uSlow .or d v2 S fun v3 S =>
 κ a c v3 e f g h i j k l m S
def u103_15 (C : CU) := m12 fun a c d e f g h i j k l m S κ =>
 uSlow .and h (.b 128) S fun v0 S =>
 uEq false .eql v0 (.b 0) S fun v1 S =>
 κ a c d e f g h i j k l v1 S
def u103_16 := k12 fun a c d e f g h i j k l m => m
def u103_17 (C : CU) := m12 fun a c d e f g h i j k l m S κ =>
 κ a c d e (.n 0) g h i j k l m S
def u103_18 (C : CU) := m12 fun a c d e f g h i j k l m S κ =>
 uAdd g (.n 7) S fun v0 S =>
 κ a c d e f v0 h i j k l m S
def u103_19 (C : CU) (n : Nat) : CdU W12 := seqU (blockU 1 (seqU (seqU (u103_5 C) (condU u103_6 (seqU (u103_7 C) (retU)) (skipU))) (seqU (u103_8 C) (seqU (u103_9 C) (seqU (seqU (u103_10 C) (seqU (u103_11 C) (condU u103_12 (seqU (u103_13 C) (retU)) (skipU)))) (seqU (u103_14 C) (seqU (u103_15 C) (condU u103_16 (seqU (u103_17 C) (retU)) (skipU))))))))) (u103_18 C)
def u103r (v : W12) (S : FAW) : RU := W12.rec (motive := fun _ => RU) (fun a c d e f g h i j k l m => .ok (.u [d, e, f]) S) v
def u103b (C : CU) (n : Nat) : CdU W12 := seqU (u103_0 C) (seqU (seqU (u103_1 C) (condU u103_2 (seqU (u103_3 C) (retU)) (skipU))) (seqU (u103_4 C) (blockU 0 (loopU n (u103_19 C n)))))
def u103 : Fu := fun C n args S => u103b C n ((fu12 0 1 4 5 6 7 8 9 15 21 45 55).ent (argU args)) S fun o v S => exU o (u103r v S) (fun _ => .no) (u103r v S)
end
end Go.Proofs.Ytgejdfhfgphcbaa.Ev
