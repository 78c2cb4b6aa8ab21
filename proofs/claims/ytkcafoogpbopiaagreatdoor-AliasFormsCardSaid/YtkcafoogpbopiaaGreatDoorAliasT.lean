/- Functions of the program, each told by what goes on behind each step: printed by a program of ours. -/
import Derived.Test.YtkcafoogpbopiaaGreatDoorAliasT0
namespace Go.Proofs.YtkcafoogpbopiaaGreatDoor.Ev
open Go Go.RowKit
set_option linter.unusedVariables false
noncomputable section
/-! (*assayer/assayerref5.parser).strukt -/
def u98_0 (C : CU) : CdU W4 := fun v S κ => W4.rec (motive := fun _ => RU) (fun v0 v1 v4 v5 => 
 uNewF 60 12 [(.n 0), (.s []), (.s []), (.n 0), (.n 0), (.i .u64 0), (.s []), .nl, .nl, .nl, (.s []), .nl] S fun v6 S =>
 κ .normal (.mk v0 v1 v6 v5) S) v
def u98_1 (C : CU) : CdU W4 := fun v S κ => W4.rec (motive := fun _ => RU) (fun v0 v1 v4 v5 => 
 uCall C 94 [v0] S fun v6 S =>
 uBuildF [(.n 0), (.s []), (.s []), (.n 0), (.n 0), (.i .u64 0), (.s []), .nl, .nl, .nl, (.s []), .nl] [(0, 1, v1), (1, 1, v6)] S fun v7 S =>
 uNewF 60 12 [(.n 0), (.s []), (.s []), (.n 0), (.n 0), (.i .u64 0), (.s []), .nl, .nl, .nl, (.s []), .nl] S fun v8 S =>
 uSt 12 v8 v7 S fun v9 S =>
 κ .normal (.mk v0 v1 v4 v8) S) v
def u98_2 (C : CU) : CdU W4 := fun v S κ => W4.rec (motive := fun _ => RU) (fun v0 v1 v4 v5 => 
 uCall C 95 [v0, (.s [123])] S fun v6 S =>
 κ .normal (.mk v0 v1 v4 v5) S) v
def u98_3 (C : CU) : CdU W4 := fun v S κ => W4.rec (motive := fun _ => RU) (fun v0 v1 v4 v5 => 
 uCall C 126 [v0, (.s [125])] S fun v6 S =>
 uFad 8 v5 S fun v7 S =>
 uSt 1 v7 v6 S fun v8 S =>
 κ .normal (.mk v0 v1 v4 v5) S) v
def u98_4 (C : CU) : CdU W4 := fun v S κ => W4.rec (motive := fun _ => RU) (fun v0 v1 v4 v5 => 
 uLd (some 12) v5 S fun v6 S =>
 uSt 12 v4 v6 S fun v7 S =>
 κ .normal (.mk v0 v1 v4 v5) S) v
def u98r (v : W4) (S : FAW) : RU := W4.rec (motive := fun _ => RU) (fun v0 v1 v4 v5 => uLd (some 12) v4 S fun r4 _ => .ok r4 S) v
def u98 : Fu := fun C n args S => (seqU (u98_0 C) (seqU (u98_1 C) (seqU (u98_2 C) (seqU (u98_3 C) (seqU (u98_4 C) (retU))))) : CdU W4) (.mk (argU args 0) (argU args 1) (argU args 4) (argU args 5)) S fun o v S => exU o (u98r v S) (fun _ => .no) (u98r v S)
/-! (*assayer/assayerref5.parser).methods -/
def u99_0 (C : CU) : CdU W8 := fun v S κ => W8.rec (motive := fun _ => RU) (fun v0 v2 v3 v4 v14 v29 v36 v50 => 
 κ .normal (.mk v0 .nl v3 v4 v14 v29 v36 v50) S) v
def u99_1 (C : CU) : CdU W8 := fun v S κ => W8.rec (motive := fun _ => RU) (fun v0 v2 v3 v4 v14 v29 v36 v50 => 
 κ .normal (.mk v0 v2 .nl v4 v14 v29 v36 v50) S) v
def u99_2 (C : CU) : CdU W8 := fun v S κ => W8.rec (motive := fun _ => RU) (fun v0 v2 v3 v4 v14 v29 v36 v50 => 
 uGet 2 v0 S fun v53 S =>
 uEq false .eql v53 (.n 0) S fun v54 S =>
 eT v54 fun b => cn b
 (uCall C 123 [v0, (.s [125])] S fun v55 S =>
 uNot v55 S fun v56 S =>
 κ .normal (.mk v0 v2 v3 v4 v56 v29 v36 v50) S)
 (κ .normal (.mk v0 v2 v3 v4 (.t false) v29 v36 v50) S)) v
def u99_3 : W8 → FV := fun v => W8.rec (motive := fun _ => FV) (fun v0 v2 v3 v4 v14 v29 v36 v50 => v14) v
def u99_4 (C : CU) : CdU W8 := fun v S κ => W8.rec (motive := fun _ => RU) (fun v0 v2 v3 v4 v14 v29 v36 v50 => 
 uLen false v3 S fun v51 S =>
 uEq false .eql v51 (.n 30) S fun v52 S =>
 eT v52 fun b => cn b
 (uCall C 88 [v0, (.s [111, 110, 101, 119, 97, 121])] S fun v53 S =>
 eT v53 fun b => cn b
 (κ .normal (.mk v0 v2 v3 v4 v14 (.t true) v36 v50) S)
 (uCall C 88 [v0, (.s [118, 111, 105, 100])] S fun v54 S =>
 eT v54 fun b => cn b
 (κ .normal (.mk v0 v2 v3 v4 v14 (.t true) v36 v50) S)
 (uCall C 127 [v0] S fun v55 S =>
 κ .normal (.mk v0 v2 v3 v4 v14 v55 v36 v50) S)))
 (κ .normal (.mk v0 v2 v3 v4 v14 (.t false) v36 v50) S)) v
def u99_5 : W8 → FV := fun v => W8.rec (motive := fun _ => FV) (fun v0 v2 v3 v4 v14 v29 v36 v50 => v29) v
def u99_6 (C : CU) : CdU W8 := fun v S κ => W8.rec (motive := fun _ => RU) (fun v0 v2 v3 v4 v14 v29 v36 v50 => 
 uCall C 66 [v0, (.n 4)] S fun v51 S =>
 κ .normal (.mk v0 v2 v3 v4 v14 v29 v36 v50) S) v
def u99_7 (C : CU) : CdU W8 := fun v S κ => W8.rec (motive := fun _ => RU) (fun v0 v2 v3 v4 v14 v29 v36 v50 => 
 uCall C 89 [v0, (.s [111, 110, 101, 119, 97, 121])] S fun v51 S =>
 uBuildF [(.s []), (.t false), (.s []), .nl, .nl] [(1, 1, v51)] S fun v52 S =>
 uNewF 145 5 [(.s []), (.t false), (.s []), .nl, .nl] S fun v53 S =>
 uSt 5 v53 v52 S fun v54 S =>
 κ .normal (.mk v0 v2 v3 v53 v14 v29 v36 v50) S) v
def u99_8 (C : CU) : CdU W8 := fun v S κ => W8.rec (motive := fun _ => RU) (fun v0 v2 v3 v4 v14 v29 v36 v50 => 
 uCall C 89 [v0, (.s [118, 111, 105, 100])] S fun v51 S =>
 κ .normal (.mk v0 v2 v3 v4 v14 v29 v51 v50) S) v
def u99_9 : W8 → FV := fun v => W8.rec (motive := fun _ => FV) (fun v0 v2 v3 v4 v14 v29 v36 v50 => v36) v
def u99_10 (C : CU) : CdU W8 := fun v S κ => W8.rec (motive := fun _ => RU) (fun v0 v2 v3 v4 v14 v29 v36 v50 => 
 uFad 2 v4 S fun v51 S =>
 uSt 1 v51 (.s [118, 111, 105, 100]) S fun v52 S =>
 κ .normal (.mk v0 v2 v3 v4 v14 v29 v36 v50) S) v
def u99_11 (C : CU) : CdU W8 := fun v S κ => W8.rec (motive := fun _ => RU) (fun v0 v2 v3 v4 v14 v29 v36 v50 => 
 uCall C 93 [v0, (.n 1)] S fun v51 S =>
 uFad 2 v4 S fun v52 S =>
 uSt 1 v52 v51 S fun v53 S =>
 κ .normal (.mk v0 v2 v3 v4 v14 v29 v36 v50) S) v
def u99_12 (C : CU) : CdU W8 := fun v S κ => W8.rec (motive := fun _ => RU) (fun v0 v2 v3 v4 v14 v29 v36 v50 => 
 uCall C 94 [v0] S fun v51 S =>
 uFad 0 v4 S fun v52 S =>
 uSt 1 v52 v51 S fun v53 S =>
 κ .normal (.mk v0 v2 v3 v4 v14 v29 v36 v50) S) v
def u99_13 (C : CU) : CdU W8 := fun v S κ => W8.rec (motive := fun _ => RU) (fun v0 v2 v3 v4 v14 v29 v36 v50 => 
 uCall C 95 [v0, (.s [40])] S fun v51 S =>
 κ .normal (.mk v0 v2 v3 v4 v14 v29 v36 v50) S) v
def u99_14 (C : CU) : CdU W8 := fun v S κ => W8.rec (motive := fun _ => RU) (fun v0 v2 v3 v4 v14 v29 v36 v50 => 
 uCall C 126 [v0, (.s [41])] S fun v51 S =>
 uFad 3 v4 S fun v52 S =>
 uSt 1 v52 v51 S fun v53 S =>
 κ .normal (.mk v0 v2 v3 v4 v14 v29 v36 v50) S) v
def u99_15 (C : CU) : CdU W8 := fun v S κ => W8.rec (motive := fun _ => RU) (fun v0 v2 v3 v4 v14 v29 v36 v50 => 
 uCall C 89 [v0, (.s [116, 104, 114, 111, 119, 115])] S fun v51 S =>
 κ .normal (.mk v0 v2 v3 v4 v14 v29 v36 v51) S) v
def u99_16 : W8 → FV := fun v => W8.rec (motive := fun _ => FV) (fun v0 v2 v3 v4 v14 v29 v36 v50 => v50) v
def u99_17 (C : CU) : CdU W8 := fun v S κ => W8.rec (motive := fun _ => RU) (fun v0 v2 v3 v4 v14 v29 v36 v50 => 
 uCall C 95 [v0, (.s [40])] S fun v51 S =>
 κ .normal (.mk v0 v2 v3 v4 v14 v29 v36 v50) S) v
def u99_18 (C : CU) : CdU W8 := fun v S κ => W8.rec (motive := fun _ => RU) (fun v0 v2 v3 v4 v14 v29 v36 v50 => 
 uCall C 126 [v0, (.s [41])] S fun v51 S =>
 uFad 4 v4 S fun v52 S =>
 uSt 1 v52 v51 S fun v53 S =>
 κ .normal (.mk v0 v2 v3 v4 v14 v29 v36 v50) S) v
def u99_19 (C : CU) : CdU W8 := fun v S κ => W8.rec (motive := fun _ => RU) (fun v0 v2 v3 v4 v14 v29 v36 v50 => 
 uCall C 100 [v0] S fun v51 S =>
 κ .normal (.mk v0 v2 v3 v4 v14 v29 v36 v50) S) v
def u99_20 (C : CU) : CdU W8 := fun v S κ => W8.rec (motive := fun _ => RU) (fun v0 v2 v3 v4 v14 v29 v36 v50 => 
 uLd (some 5) v4 S fun v51 S =>
 uLitF 145 5 [(.s []), (.t false), (.s []), .nl, .nl] 1 [(0, 5, v51)] S fun v52 S =>
 uApp 145 5 88 v3 v52 S fun v53 S =>
 κ .normal (.mk v0 v2 v53 v4 v14 v29 v36 v50) S) v
def u99_21 (C : CU) (n : Nat) : CdU W8 := seqU (seqU (u99_2 C) (condU u99_3 (skipU) (exitU 0))) (blockU 1 (seqU (seqU (u99_4 C) (condU u99_5 (seqU (u99_6 C) (exitU 0)) (skipU))) (seqU (u99_7 C) (seqU (seqU (u99_8 C) (condU u99_9 (u99_10 C) (u99_11 C))) (seqU (u99_12 C) (seqU (u99_13 C) (seqU (u99_14 C) (seqU (seqU (u99_15 C) (condU u99_16 (seqU (u99_17 C) (u99_18 C)) (skipU))) (seqU (u99_19 C) (u99_20 C))))))))))
def u99_22 (C : CU) : CdU W8 := fun v S κ => W8.rec (motive := fun _ => RU) (fun v0 v2 v3 v4 v14 v29 v36 v50 => 
 uCall C 95 [v0, (.s [125])] S fun v51 S =>
 κ .normal (.mk v0 v2 v3 v4 v14 v29 v36 v50) S) v
def u99_23 (C : CU) : CdU W8 := fun v S κ => W8.rec (motive := fun _ => RU) (fun v0 v2 v3 v4 v14 v29 v36 v50 => 
 κ .normal (.mk v0 v3 v3 v4 v14 v29 v36 v50) S) v
def u99r (v : W8) (S : FAW) : RU := W8.rec (motive := fun _ => RU) (fun v0 v2 v3 v4 v14 v29 v36 v50 => .ok v2 S) v
def u99 : Fu := fun C n args S => (seqU (u99_0 C) (seqU (u99_1 C) (seqU (blockU 0 (loopU n (u99_21 C n))) (seqU (u99_22 C) (seqU (u99_23 C) (retU))))) : CdU W8) (.mk (argU args 0) (argU args 2) (argU args 3) (argU args 4) (argU args 14) (argU args 29) (argU args 36) (argU args 50)) S fun o v S => exU o (u99r v S) (fun _ => .no) (u99r v S)
/-! (*assayer/assayerref5.parser).part -/
def u100_0 (C : CU) : CdU W2 := fun v S κ => W2.rec (motive := fun _ => RU) (fun v0 v4 => 
 uCall C 91 [v0, (.s [44])] S fun v5 S =>
 uNot v5 S fun v6 S =>
 κ .normal (.mk v0 v6) S) v
def u100_1 : W2 → FV := fun v => W2.rec (motive := fun _ => FV) (fun v0 v4 => v4) v
def u100_2 (C : CU) : CdU W2 := fun v S κ => W2.rec (motive := fun _ => RU) (fun v0 v4 => 
 uCall C 91 [v0, (.s [59])] S fun v5 S =>
 κ .normal (.mk v0 v4) S) v
def u100r (v : W2) (S : FAW) : RU := W2.rec (motive := fun _ => RU) (fun v0 v4 => .ok (.u []) S) v
def u100 : Fu := fun C n args S => (seqU (u100_0 C) (condU u100_1 (u100_2 C) (skipU)) : CdU W2) (.mk (argU args 0) (argU args 4)) S fun o v S => exU o (u100r v S) (fun _ => .no) (u100r v S)
/-! (*assayer/kind.cursor).part -/
def u107_0 (C : CU) : CdU W4 := fun v S κ => W4.rec (motive := fun _ => RU) (fun v0 v2 v3 v85 => 
 κ .normal (.mk v0 (.s []) v3 v85) S) v
def u107_1 (C : CU) : CdU W4 := fun v S κ => W4.rec (motive := fun _ => RU) (fun v0 v2 v3 v85 => 
 uGet 1 v0 S fun v88 S =>
 κ .normal (.mk v0 v2 v88 v85) S) v
def u107_2 (C : CU) : CdU W4 := fun v S κ => W4.rec (motive := fun _ => RU) (fun v0 v2 v3 v85 => 
 uGet 1 v0 S fun v88 S =>
 uGet 0 v0 S fun v91 S =>
 uLen true v91 S fun v92 S =>
 uCmp (fun a b => Nat.ble b a) .geq v88 v92 S fun v93 S =>
 eT v93 fun b => cn b
 (uCall C 73 [v0, (.t true), (.n 2)] S fun v94 S =>
 κ .normal (.mk v0 v2 v3 v85) S)
 (uGet 0 v0 S fun v96 S =>
 uGet 1 v0 S fun v99 S =>
 uIdxS v96 v99 S fun v100 S =>
 uCall C 131 [v100] S fun v101 S =>
 uNot v101 S fun v102 S =>
 uCall C 73 [v0, v102, (.n 2)] S fun v103 S =>
 κ .normal (.mk v0 v2 v3 v85) S)) v
def u107_3 (C : CU) : CdU W4 := fun v S κ => W4.rec (motive := fun _ => RU) (fun v0 v2 v3 v85 => 
 uGet 2 v0 S fun v88 S =>
 uEq false .eql v88 (.n 0) S fun v89 S =>
 eT v89 fun b => cn b
 (uGet 1 v0 S fun v92 S =>
 uGet 0 v0 S fun v95 S =>
 uLen true v95 S fun v96 S =>
 uCmp ltN .lss v92 v96 S fun v97 S =>
 eT v97 fun b => cn b
 (uGet 0 v0 S fun v100 S =>
 uGet 1 v0 S fun v103 S =>
 uIdxS v100 v103 S fun v104 S =>
 uCall C 131 [v104] S fun v105 S =>
 eT v105 fun b => cn b
 (κ .normal (.mk v0 v2 v3 (.t true)) S)
 (uGet 0 v0 S fun v108 S =>
 uGet 1 v0 S fun v111 S =>
 uIdxS v108 v111 S fun v112 S =>
 uCmp (fun a b => Nat.ble b a) .geq v112 (.b 48) S fun v113 S =>
 eT v113 fun b => cn b
 (uGet 0 v0 S fun v116 S =>
 uGet 1 v0 S fun v119 S =>
 uIdxS v116 v119 S fun v120 S =>
 uCmp Nat.ble .leq v120 (.b 57) S fun v121 S =>
 κ .normal (.mk v0 v2 v3 v121) S)
 (κ .normal (.mk v0 v2 v3 (.t false)) S)))
 (κ .normal (.mk v0 v2 v3 (.t false)) S))
 (κ .normal (.mk v0 v2 v3 (.t false)) S)) v
def u107_4 : W4 → FV := fun v => W4.rec (motive := fun _ => FV) (fun v0 v2 v3 v85 => v85) v
def u107_5 (C : CU) : CdU W4 := fun v S κ => W4.rec (motive := fun _ => RU) (fun v0 v2 v3 v85 => 
 uGet 1 v0 S fun v88 S =>
 uAdd v88 (.n 1) S fun v89 S =>
 uNilc v0 S fun v90 S =>
 uFad 1 v90 S fun v91 S =>
 uSt 1 v91 v89 S fun v92 S =>
 κ .normal (.mk v0 v2 v3 v85) S) v
def u107_6 (C : CU) (n : Nat) : CdU W4 := seqU (seqU (u107_3 C) (condU u107_4 (skipU) (exitU 0))) (blockU 1 (u107_5 C))
def u107_7 (C : CU) : CdU W4 := fun v S κ => W4.rec (motive := fun _ => RU) (fun v0 v2 v3 v85 => 
 uGet 0 v0 S fun v88 S =>
 uGet 1 v0 S fun v91 S =>
 uSlS v88 (some v3) (some v91) S fun v92 S =>
 κ .normal (.mk v0 v92 v3 v85) S) v
def u107r (v : W4) (S : FAW) : RU := W4.rec (motive := fun _ => RU) (fun v0 v2 v3 v85 => .ok v2 S) v
def u107 : Fu := fun C n args S => (seqU (u107_0 C) (seqU (u107_1 C) (seqU (u107_2 C) (seqU (blockU 0 (loopU n (u107_6 C n))) (seqU (u107_7 C) (retU))))) : CdU W4) (.mk (argU args 0) (argU args 2) (argU args 3) (argU args 85)) S fun o v S => exU o (u107r v S) (fun _ => .no) (u107r v S)
/-! (*assayer/kind.cursor).rest -/
def u108_0 (C : CU) : CdU W4 := fun v S κ => W4.rec (motive := fun _ => RU) (fun v0 v2 v3 v36 => 
 κ .normal (.mk v0 (.t false) v3 v36) S) v
def u108_1 (C : CU) : CdU W4 := fun v S κ => W4.rec (motive := fun _ => RU) (fun v0 v2 v3 v36 => 
 uGet 1 v0 S fun v39 S =>
 κ .normal (.mk v0 v2 v39 v36) S) v
def u108_2 (C : CU) : CdU W4 := fun v S κ => W4.rec (motive := fun _ => RU) (fun v0 v2 v3 v36 => 
 uGet 2 v0 S fun v39 S =>
 uEq false .eql v39 (.n 0) S fun v40 S =>
 eT v40 fun b => cn b
 (uGet 1 v0 S fun v43 S =>
 uGet 0 v0 S fun v46 S =>
 uLen true v46 S fun v47 S =>
 uCmp ltN .lss v43 v47 S fun v48 S =>
 eT v48 fun b => cn b
 (uGet 0 v0 S fun v51 S =>
 uGet 1 v0 S fun v54 S =>
 uIdxS v51 v54 S fun v55 S =>
 uEq false .eql v55 (.b 46) S fun v56 S =>
 κ .normal (.mk v0 v2 v3 v56) S)
 (κ .normal (.mk v0 v2 v3 (.t false)) S))
 (κ .normal (.mk v0 v2 v3 (.t false)) S)) v
def u108_3 : W4 → FV := fun v => W4.rec (motive := fun _ => FV) (fun v0 v2 v3 v36 => v36) v
def u108_4 (C : CU) : CdU W4 := fun v S κ => W4.rec (motive := fun _ => RU) (fun v0 v2 v3 v36 => 
 uGet 1 v0 S fun v39 S =>
 uAdd v39 (.n 1) S fun v40 S =>
 uNilc v0 S fun v41 S =>
 uFad 1 v41 S fun v42 S =>
 uSt 1 v42 v40 S fun v43 S =>
 κ .normal (.mk v0 v2 v3 v36) S) v
def u108_5 (C : CU) : CdU W4 := fun v S κ => W4.rec (motive := fun _ => RU) (fun v0 v2 v3 v36 => 
 uCall C 107 [v0] S fun v37 S =>
 κ .normal (.mk v0 v2 v3 v36) S) v
def u108_6 (C : CU) (n : Nat) : CdU W4 := seqU (seqU (u108_2 C) (condU u108_3 (skipU) (exitU 0))) (blockU 1 (seqU (u108_4 C) (u108_5 C)))
def u108_7 (C : CU) : CdU W4 := fun v S κ => W4.rec (motive := fun _ => RU) (fun v0 v2 v3 v36 => 
 uGet 1 v0 S fun v39 S =>
 uCmp (fun a b => ltN b a) .gtr v39 v3 S fun v40 S =>
 κ .normal (.mk v0 v40 v3 v36) S) v
def u108r (v : W4) (S : FAW) : RU := W4.rec (motive := fun _ => RU) (fun v0 v2 v3 v36 => .ok v2 S) v
def u108 : Fu := fun C n args S => (seqU (u108_0 C) (seqU (u108_1 C) (seqU (blockU 0 (loopU n (u108_6 C n))) (seqU (u108_7 C) (retU)))) : CdU W4) (.mk (argU args 0) (argU args 2) (argU args 3) (argU args 36)) S fun o v S => exU o (u108r v S) (fun _ => .no) (u108r v S)
/-! assayer/kind.inner -/
def u109_0 (C : CU) : CdU W5 := fun v S κ => W5.rec (motive := fun _ => RU) (fun v0 v2 v3 v4 v7 => 
 κ .normal (.mk v0 (.n 0) v3 v4 v7) S) v
def u109_1 (C : CU) : CdU W5 := fun v S κ => W5.rec (motive := fun _ => RU) (fun v0 v2 v3 v4 v7 => 
 κ .normal (.mk v0 v2 v0 v4 v7) S) v
def u109_2 (C : CU) : CdU W5 := fun v S κ => W5.rec (motive := fun _ => RU) (fun v0 v2 v3 v4 v7 => 
 uEq false .eql v3 (.n 15) S fun v8 S =>
 κ .normal (.mk v0 v2 v3 v8 v7) S) v
def u109_3 : W5 → FV := fun v => W5.rec (motive := fun _ => FV) (fun v0 v2 v3 v4 v7 => v4) v
def u109_4 (C : CU) : CdU W5 := fun v S κ => W5.rec (motive := fun _ => RU) (fun v0 v2 v3 v4 v7 => 
 uEq false .eql v3 (.n 14) S fun v8 S =>
 κ .normal (.mk v0 v2 v3 v8 v7) S) v
def u109_5 : W5 → FV := fun v => W5.rec (motive := fun _ => FV) (fun v0 v2 v3 v4 v7 => v4) v
def u109_6 (C : CU) : CdU W5 := fun v S κ => W5.rec (motive := fun _ => RU) (fun v0 v2 v3 v4 v7 => 
 κ .normal (.mk v0 (.n 1) v3 v4 v7) S) v
def u109_7 (C : CU) : CdU W5 := fun v S κ => W5.rec (motive := fun _ => RU) (fun v0 v2 v3 v4 v7 => 
 uEq false .eql v3 (.n 13) S fun v8 S =>
 κ .normal (.mk v0 v2 v3 v4 v8) S) v
def u109_8 : W5 → FV := fun v => W5.rec (motive := fun _ => FV) (fun v0 v2 v3 v4 v7 => v7) v
def u109_9 (C : CU) : CdU W5 := fun v S κ => W5.rec (motive := fun _ => RU) (fun v0 v2 v3 v4 v7 => 
 κ .normal (.mk v0 (.n 2) v3 v4 v7) S) v
def u109_10 (C : CU) : CdU W5 := fun v S κ => W5.rec (motive := fun _ => RU) (fun v0 v2 v3 v4 v7 => 
 κ .normal (.mk v0 (.n 0) v3 v4 v7) S) v
def u109r (v : W5) (S : FAW) : RU := W5.rec (motive := fun _ => RU) (fun v0 v2 v3 v4 v7 => .ok v2 S) v
def u109 : Fu := fun C n args S => (seqU (u109_0 C) (seqU (seqU (u109_1 C) (blockU 0 (seqU (seqU (u109_2 C) (condU u109_3 (skipU) (u109_4 C))) (condU u109_5 (seqU (u109_6 C) (retU)) (seqU (u109_7 C) (condU u109_8 (seqU (u109_9 C) (retU)) (skipU))))))) (seqU (u109_10 C) (retU))) : CdU W5) (.mk (argU args 0) (argU args 2) (argU args 3) (argU args 4) (argU args 7)) S fun o v S => exU o (u109r v S) (fun _ => .no) (u109r v S)
/-! (*assayer/kind.cursor).sign -/
def u110_0 (C : CU) : CdU W3 := fun v S κ => W3.rec (motive := fun _ => RU) (fun v0 v1 v33 => 
 uGet 1 v0 S fun v36 S =>
 uGet 0 v0 S fun v39 S =>
 uLen true v39 S fun v40 S =>
 uCmp (fun a b => Nat.ble b a) .geq v36 v40 S fun v41 S =>
 eT v41 fun b => cn b
 (uCall C 73 [v0, (.t true), (.n 2)] S fun v42 S =>
 κ .normal (.mk v0 v1 v33) S)
 (uGet 0 v0 S fun v44 S =>
 uGet 1 v0 S fun v47 S =>
 uIdxS v44 v47 S fun v48 S =>
 uEq true .neq v48 v1 S fun v49 S =>
 uCall C 73 [v0, v49, (.n 2)] S fun v50 S =>
 κ .normal (.mk v0 v1 v33) S)) v
def u110_1 (C : CU) : CdU W3 := fun v S κ => W3.rec (motive := fun _ => RU) (fun v0 v1 v33 => 
 uGet 2 v0 S fun v36 S =>
 uEq false .eql v36 (.n 0) S fun v37 S =>
 κ .normal (.mk v0 v1 v37) S) v
def u110_2 : W3 → FV := fun v => W3.rec (motive := fun _ => FV) (fun v0 v1 v33 => v33) v
def u110_3 (C : CU) : CdU W3 := fun v S κ => W3.rec (motive := fun _ => RU) (fun v0 v1 v33 => 
 uGet 1 v0 S fun v36 S =>
 uAdd v36 (.n 1) S fun v37 S =>
 uNilc v0 S fun v38 S =>
 uFad 1 v38 S fun v39 S =>
 uSt 1 v39 v37 S fun v40 S =>
 κ .normal (.mk v0 v1 v33) S) v
def u110r (v : W3) (S : FAW) : RU := W3.rec (motive := fun _ => RU) (fun v0 v1 v33 => .ok (.u []) S) v
def u110 : Fu := fun C n args S => (seqU (u110_0 C) (seqU (u110_1 C) (condU u110_2 (u110_3 C) (skipU))) : CdU W3) (.mk (argU args 0) (argU args 1) (argU args 33)) S fun o v S => exU o (u110r v S) (fun _ => .no) (u110r v S)
/-! strings.Split -/
def u111_0 (C : CU) : CdU W3 := fun v S κ => W3.rec (motive := fun _ => RU) (fun v0 v1 v4 => 
 κ .normal (.mk v0 v1 .nl) S) v
def u111_1 (C : CU) : CdU W3 := fun v S κ => W3.rec (motive := fun _ => RU) (fun v0 v1 v4 => 
 uCall C 132 [v0, v1, (.n 0), (.i .i64 (-1))] S fun v5 S =>
 κ .normal (.mk v0 v1 v5) S) v
def u111r (v : W3) (S : FAW) : RU := W3.rec (motive := fun _ => RU) (fun v0 v1 v4 => .ok v4 S) v
def u111 : Fu := fun C n args S => (seqU (u111_0 C) (seqU (u111_1 C) (retU)) : CdU W3) (.mk (argU args 0) (argU args 1) (argU args 4)) S fun o v S => exU o (u111r v S) (fun _ => .no) (u111r v S)
/-! assayer/scope.at -/
def u112_0 (C : CU) : CdU W8 := fun v S κ => W8.rec (motive := fun _ => RU) (fun v0 v1 v2 v3 v5 v6 v7 v13 => 
 uBox 37 2 v0 S fun v14 S =>
 uBox 178 2 v2 S fun v15 S =>
 uNewF 60 12 [(.n 0), (.s []), (.s []), (.n 0), (.n 0), (.i .u64 0), (.s []), .nl, .nl, .nl, (.s []), .nl] S fun v16 S =>
 κ .normal (.mk v0 v1 v2 v14 v15 v16 (.t false) v13) S) v
def u112_1 (C : CU) : CdU W8 := fun v S κ => W8.rec (motive := fun _ => RU) (fun v0 v1 v2 v3 v5 v6 v7 v13 => 
 uLd (some 2) v3 S fun v14 S =>
 uFad 0 v5 S fun v15 S =>
 uLd none v15 S fun v16 S =>
 uCall C 133 [v14, v1, v16] S fun v17 S =>
 uNot v17 S fun v18 S =>
 κ .normal (.mk v0 v1 v2 v3 v5 v6 v7 v18) S) v
def u112_2 : W8 → FV := fun v => W8.rec (motive := fun _ => FV) (fun v0 v1 v2 v3 v5 v6 v7 v13 => v13) v
def u112_3 (C : CU) : CdU W8 := fun v S κ => W8.rec (motive := fun _ => RU) (fun v0 v1 v2 v3 v5 v6 v7 v13 => 
 uLd (some 12) v6 S fun v14 S =>
 uSt 12 v6 v14 S fun v15 S =>
 κ .normal (.mk v0 v1 v2 v3 v5 v6 (.t false) v13) S) v
def u112_4 (C : CU) : CdU W8 := fun v S κ => W8.rec (motive := fun _ => RU) (fun v0 v1 v2 v3 v5 v6 v7 v13 => 
 uLd (some 2) v3 S fun v14 S =>
 uFad 0 v5 S fun v15 S =>
 uLd none v15 S fun v16 S =>
 uLd (some 2) v5 S fun v17 S =>
 uCall C 134 [v14, v16] S fun v18 S =>
 uMlkF (.agg [.str, .str]) (.a [(.n 0), (.s []), (.s []), (.n 0), (.n 0), (.i .u64 0), (.s []), .nl, .nl, .nl, (.s []), .nl]) true v18 v17 S fun v19 S =>
 uExt 0 v19 S fun v20 S =>
 uExt 1 v19 S fun v21 S =>
 uLd (some 2) v5 S fun u _ => veqU u v17
 (uSt 12 v6 v20 S fun v22 S =>
 κ .normal (.mk v0 v1 v2 v3 v5 v6 v21 v13) S)) v
def u112_5 (C : CU) : CdU W8 := fun v S κ => W8.rec (motive := fun _ => RU) (fun v0 v1 v2 v3 v5 v6 v7 v13 => 
 uLd (some 12) v6 S fun v14 S =>
 uSt 12 v6 v14 S fun v15 S =>
 κ .normal (.mk v0 v1 v2 v3 v5 v6 v7 v13) S) v
def u112r (v : W8) (S : FAW) : RU := W8.rec (motive := fun _ => RU) (fun v0 v1 v2 v3 v5 v6 v7 v13 => uLd (some 12) v6 S fun r6 _ => .ok (.u [r6, v7]) S) v
def u112 : Fu := fun C n args S => (seqU (u112_0 C) (seqU (seqU (u112_1 C) (condU u112_2 (seqU (u112_3 C) (retU)) (skipU))) (seqU (u112_4 C) (seqU (u112_5 C) (retU)))) : CdU W8) (.mk (argU args 0) (argU args 1) (argU args 2) (argU args 3) (argU args 5) (argU args 6) (argU args 7) (argU args 13)) S fun o v S => exU o (u112r v S) (fun _ => .no) (u112r v S)
/-! (assayer/scope.place).whole -/
def u113_0 (C : CU) : CdU W3 := fun v S κ => W3.rec (motive := fun _ => RU) (fun v0 v1 v2 => 
 uBox 178 2 v0 S fun v3 S =>
 κ .normal (.mk v0 v3 (.s [])) S) v
def u113_1 (C : CU) : CdU W3 := fun v S κ => W3.rec (motive := fun _ => RU) (fun v0 v1 v2 => 
 uFad 0 v1 S fun v3 S =>
 uLd none v3 S fun v4 S =>
 uAdd v4 (.s [46]) S fun v5 S =>
 uFad 1 v1 S fun v6 S =>
 uLd none v6 S fun v7 S =>
 uAdd v5 v7 S fun v8 S =>
 κ .normal (.mk v0 v1 v8) S) v
def u113r (v : W3) (S : FAW) : RU := W3.rec (motive := fun _ => RU) (fun v0 v1 v2 => .ok v2 S) v
def u113 : Fu := fun C n args S => (seqU (u113_0 C) (seqU (u113_1 C) (retU)) : CdU W3) (.mk (argU args 0) (argU args 1) (argU args 2)) S fun o v S => exU o (u113r v S) (fun _ => .no) (u113r v S)
-- NONE 116 internal/bytealg.IndexString
/-! internal/bytealg.IndexRabinKarp[string] -/
def u118_0 (C : CU) : CdU W13 := fun v S κ => W13.rec (motive := fun _ => RU) (fun v0 v1 v4 v5 v6 v7 v8 v9 v10 v20 v39 v44 v77 => 
 κ .normal (.mk v0 v1 (.n 0) v5 v6 v7 v8 v9 v10 v20 v39 v44 v77) S) v
def u118_1 (C : CU) : CdU W13 := fun v S κ => W13.rec (motive := fun _ => RU) (fun v0 v1 v4 v5 v6 v7 v8 v9 v10 v20 v39 v44 v77 => 
 uCall C 135 [v1] S fun v78 S =>
 uExt 0 v78 S fun v79 S =>
 uExt 1 v78 S fun v80 S =>
 κ .normal (.mk v0 v1 v4 v79 v80 v7 v8 v9 v10 v20 v39 v44 v77) S) v
def u118_2 (C : CU) : CdU W13 := fun v S κ => W13.rec (motive := fun _ => RU) (fun v0 v1 v4 v5 v6 v7 v8 v9 v10 v20 v39 v44 v77 => 
 uLen true v1 S fun v78 S =>
 κ .normal (.mk v0 v1 v4 v5 v6 v78 v8 v9 v10 v20 v39 v44 v77) S) v
def u118_3 (C : CU) : CdU W13 := fun v S κ => W13.rec (motive := fun _ => RU) (fun v0 v1 v4 v5 v6 v7 v8 v9 v10 v20 v39 v44 v77 => 
 κ .normal (.mk v0 v1 v4 v5 v6 v7 (.i .u32 0) v9 v10 v20 v39 v44 v77) S) v
def u118_4 (C : CU) : CdU W13 := fun v S κ => W13.rec (motive := fun _ => RU) (fun v0 v1 v4 v5 v6 v7 v8 v9 v10 v20 v39 v44 v77 => 
 κ .normal (.mk v0 v1 v4 v5 v6 v7 v8 (.n 0) v10 v20 v39 v44 v77) S) v
def u118_5 (C : CU) : CdU W13 := fun v S κ => W13.rec (motive := fun _ => RU) (fun v0 v1 v4 v5 v6 v7 v8 v9 v10 v20 v39 v44 v77 => 
 uCmp ltN .lss v9 v7 S fun v78 S =>
 κ .normal (.mk v0 v1 v4 v5 v6 v7 v8 v9 v10 v78 v39 v44 v77) S) v
def u118_6 : W13 → FV := fun v => W13.rec (motive := fun _ => FV) (fun v0 v1 v4 v5 v6 v7 v8 v9 v10 v20 v39 v44 v77 => v20) v
def u118_7 (C : CU) : CdU W13 := fun v S κ => W13.rec (motive := fun _ => RU) (fun v0 v1 v4 v5 v6 v7 v8 v9 v10 v20 v39 v44 v77 => 
 uMul v8 (.i .u32 16777619) S fun v78 S =>
 uIdxS v0 v9 S fun v79 S =>
 uCvI .u32 v79 S fun v80 S =>
 uAdd v78 v80 S fun v81 S =>
 κ .normal (.mk v0 v1 v4 v5 v6 v7 v81 v9 v10 v20 v39 v44 v77) S) v
def u118_8 (C : CU) : CdU W13 := fun v S κ => W13.rec (motive := fun _ => RU) (fun v0 v1 v4 v5 v6 v7 v8 v9 v10 v20 v39 v44 v77 => 
 uAdd v9 (.n 1) S fun v78 S =>
 κ .normal (.mk v0 v1 v4 v5 v6 v7 v8 v78 v10 v20 v39 v44 v77) S) v
def u118_9 (C : CU) (n : Nat) : CdU W13 := seqU (seqU (u118_5 C) (condU u118_6 (skipU) (exitU 0))) (seqU (blockU 1 (u118_7 C)) (u118_8 C))
def u118_10 (C : CU) : CdU W13 := fun v S κ => W13.rec (motive := fun _ => RU) (fun v0 v1 v4 v5 v6 v7 v8 v9 v10 v20 v39 v44 v77 => 
 uEq false .eql v8 v5 S fun v78 S =>
 eT v78 fun b => cn b
 (uSlS v0 none (some v7) S fun v79 S =>
 uEq false .eql v79 v1 S fun v80 S =>
 κ .normal (.mk v0 v1 v4 v5 v6 v7 v8 v9 v10 v20 v80 v44 v77) S)
 (κ .normal (.mk v0 v1 v4 v5 v6 v7 v8 v9 v10 v20 (.t false) v44 v77) S)) v
def u118_11 : W13 → FV := fun v => W13.rec (motive := fun _ => FV) (fun v0 v1 v4 v5 v6 v7 v8 v9 v10 v20 v39 v44 v77 => v39) v
def u118_12 (C : CU) : CdU W13 := fun v S κ => W13.rec (motive := fun _ => RU) (fun v0 v1 v4 v5 v6 v7 v8 v9 v10 v20 v39 v44 v77 => 
 κ .normal (.mk v0 v1 (.n 0) v5 v6 v7 v8 v9 v10 v20 v39 v44 v77) S) v
def u118_13 (C : CU) : CdU W13 := fun v S κ => W13.rec (motive := fun _ => RU) (fun v0 v1 v4 v5 v6 v7 v8 v9 v10 v20 v39 v44 v77 => 
 κ .normal (.mk v0 v1 v4 v5 v6 v7 v8 v9 v7 v20 v39 v44 v77) S) v
def u118_14 (C : CU) : CdU W13 := fun v S κ => W13.rec (motive := fun _ => RU) (fun v0 v1 v4 v5 v6 v7 v8 v9 v10 v20 v39 v44 v77 => 
 uLen true v0 S fun v78 S =>
 uCmp ltN .lss v10 v78 S fun v79 S =>
 κ .normal (.mk v0 v1 v4 v5 v6 v7 v8 v9 v10 v20 v39 v79 v77) S) v
def u118_15 : W13 → FV := fun v => W13.rec (motive := fun _ => FV) (fun v0 v1 v4 v5 v6 v7 v8 v9 v10 v20 v39 v44 v77 => v44) v
def u118_16 (C : CU) : CdU W13 := fun v S κ => W13.rec (motive := fun _ => RU) (fun v0 v1 v4 v5 v6 v7 v8 v9 v10 v20 v39 v44 v77 => 
 uMul v8 (.i .u32 16777619) S fun v78 S =>
 κ .normal (.mk v0 v1 v4 v5 v6 v7 v78 v9 v10 v20 v39 v44 v77) S) v
def u118_17 (C : CU) : CdU W13 := fun v S κ => W13.rec (motive := fun _ => RU) (fun v0 v1 v4 v5 v6 v7 v8 v9 v10 v20 v39 v44 v77 => 
 uIdxS v0 v10 S fun v78 S =>
 uCvI .u32 v78 S fun v79 S =>
 uAdd v8 v79 S fun v80 S =>
 κ .normal (.mk v0 v1 v4 v5 v6 v7 v80 v9 v10 v20 v39 v44 v77) S) v
def u118_18 (C : CU) : CdU W13 := fun v S κ => W13.rec (motive := fun _ => RU) (fun v0 v1 v4 v5 v6 v7 v8 v9 v10 v20 v39 v44 v77 => 
 uSub v10 v7 S fun v78 S =>
 uIdxS v0 v78 S fun v79 S =>
 uCvI .u32 v79 S fun v80 S =>
 uMul v6 v80 S fun v81 S =>
 uSub v8 v81 S fun v82 S =>
 κ .normal (.mk v0 v1 v4 v5 v6 v7 v82 v9 v10 v20 v39 v44 v77) S) v
def u118_19 (C : CU) : CdU W13 := fun v S κ => W13.rec (motive := fun _ => RU) (fun v0 v1 v4 v5 v6 v7 v8 v9 v10 v20 v39 v44 v77 => 
 uAdd v10 (.n 1) S fun v78 S =>
 κ .normal (.mk v0 v1 v4 v5 v6 v7 v8 v9 v78 v20 v39 v44 v77) S) v
def u118_20 (C : CU) : CdU W13 := fun v S κ => W13.rec (motive := fun _ => RU) (fun v0 v1 v4 v5 v6 v7 v8 v9 v10 v20 v39 v44 v77 => 
 uEq false .eql v8 v5 S fun v78 S =>
 eT v78 fun b => cn b
 (uSub v10 v7 S fun v79 S =>
 uSlS v0 (some v79) (some v10) S fun v80 S =>
 uEq false .eql v80 v1 S fun v81 S =>
 κ .normal (.mk v0 v1 v4 v5 v6 v7 v8 v9 v10 v20 v39 v44 v81) S)
 (κ .normal (.mk v0 v1 v4 v5 v6 v7 v8 v9 v10 v20 v39 v44 (.t false)) S)) v
def u118_21 : W13 → FV := fun v => W13.rec (motive := fun _ => FV) (fun v0 v1 v4 v5 v6 v7 v8 v9 v10 v20 v39 v44 v77 => v77) v
def u118_22 (C : CU) : CdU W13 := fun v S κ => W13.rec (motive := fun _ => RU) (fun v0 v1 v4 v5 v6 v7 v8 v9 v10 v20 v39 v44 v77 => 
 uSub v10 v7 S fun v78 S =>
 κ .normal (.mk v0 v1 v78 v5 v6 v7 v8 v9 v10 v20 v39 v44 v77) S) v
def u118_23 (C : CU) (n : Nat) : CdU W13 := seqU (seqU (u118_14 C) (condU u118_15 (skipU) (exitU 2))) (blockU 3 (seqU (u118_16 C) (seqU (u118_17 C) (seqU (u118_18 C) (seqU (u118_19 C) (seqU (u118_20 C) (condU u118_21 (seqU (u118_22 C) (retU)) (skipU))))))))
def u118_24 (C : CU) : CdU W13 := fun v S κ => W13.rec (motive := fun _ => RU) (fun v0 v1 v4 v5 v6 v7 v8 v9 v10 v20 v39 v44 v77 => 
 κ .normal (.mk v0 v1 (.i .i64 (-1)) v5 v6 v7 v8 v9 v10 v20 v39 v44 v77) S) v
def u118r (v : W13) (S : FAW) : RU := W13.rec (motive := fun _ => RU) (fun v0 v1 v4 v5 v6 v7 v8 v9 v10 v20 v39 v44 v77 => .ok v4 S) v
def u118 : Fu := fun C n args S => (seqU (u118_0 C) (seqU (u118_1 C) (seqU (u118_2 C) (seqU (u118_3 C) (seqU (seqU (u118_4 C) (blockU 0 (loopU n (u118_9 C n)))) (seqU (seqU (u118_10 C) (condU u118_11 (seqU (u118_12 C) (retU)) (skipU))) (seqU (seqU (u118_13 C) (blockU 2 (loopU n (u118_23 C n)))) (seqU (u118_24 C) (retU)))))))) : CdU W13) (.mk (argU args 0) (argU args 1) (argU args 4) (argU args 5) (argU args 6) (argU args 7) (argU args 8) (argU args 9) (argU args 10) (argU args 20) (argU args 39) (argU args 44) (argU args 77)) S fun o v S => exU o (u118r v S) (fun _ => .no) (u118r v S)
/-! assayer/assayerref5.starts -/
def u119_0 (C : CU) : CdU W4 := fun v S κ => W4.rec (motive := fun _ => RU) (fun v0 v1 v2 v6 => 
 κ .normal (.mk v0 v1 v2 (.t false)) S) v
def u119_1 (C : CU) : CdU W4 := fun v S κ => W4.rec (motive := fun _ => RU) (fun v0 v1 v2 v6 => 
 uLen true v2 S fun v7 S =>
 uAdd v1 v7 S fun v8 S =>
 uLen true v0 S fun v9 S =>
 uCmp Nat.ble .leq v8 v9 S fun v10 S =>
 eT v10 fun b => cn b
 (uLen true v2 S fun v11 S =>
 uAdd v1 v11 S fun v12 S =>
 uSlS v0 (some v1) (some v12) S fun v13 S =>
 uEq false .eql v13 v2 S fun v14 S =>
 κ .normal (.mk v0 v1 v2 v14) S)
 (κ .normal (.mk v0 v1 v2 (.t false)) S)) v
def u119r (v : W4) (S : FAW) : RU := W4.rec (motive := fun _ => RU) (fun v0 v1 v2 v6 => .ok v6 S) v
def u119 : Fu := fun C n args S => (seqU (u119_0 C) (seqU (u119_1 C) (retU)) : CdU W4) (.mk (argU args 0) (argU args 1) (argU args 2) (argU args 6)) S fun o v S => exU o (u119r v S) (fun _ => .no) (u119r v S)
/-! (*assayer/assayerref5.lexer).fail -/
def u120_0 (C : CU) : CdU W3 := fun v S κ => W3.rec (motive := fun _ => RU) (fun v0 v1 v2 => 
 uNilc v0 S fun v3 S =>
 uFad 2 v3 S fun v4 S =>
 uSt 1 v4 v1 S fun v5 S =>
 uNilc v0 S fun v6 S =>
 uFad 3 v6 S fun v7 S =>
 uSt 1 v7 v2 S fun v8 S =>
 κ .normal (.mk v0 v1 v2) S) v
def u120r (v : W3) (S : FAW) : RU := W3.rec (motive := fun _ => RU) (fun v0 v1 v2 => .ok (.u []) S) v
def u120 : Fu := fun C n args S => (u120_0 C : CdU W3) (.mk (argU args 0) (argU args 1) (argU args 2)) S fun o v S => exU o (u120r v S) (fun _ => .no) (u120r v S)
/-! (*assayer/assayerref5.lexer).name -/
def u121_0 (C : CU) : CdU W9 := fun v S κ => W9.rec (motive := fun _ => RU) (fun v0 v2 v3 v4 v5 v55 v75 v83 v103 => 
 uNewF 137 5 [(.n 0), (.s []), (.n 0), (.i .u64 0), (.n 0)] S fun v104 S =>
 κ .normal (.mk v0 v104 v3 v4 v5 v55 v75 v83 v103) S) v
def u121_1 (C : CU) : CdU W9 := fun v S κ => W9.rec (motive := fun _ => RU) (fun v0 v2 v3 v4 v5 v55 v75 v83 v103 => 
 uGet 1 v0 S fun v106 S =>
 κ .normal (.mk v0 v2 v106 v4 v5 v55 v75 v83 v103) S) v
def u121_2 (C : CU) : CdU W9 := fun v S κ => W9.rec (motive := fun _ => RU) (fun v0 v2 v3 v4 v5 v55 v75 v83 v103 => 
 uGet 1 v0 S fun v106 S =>
 uGet 0 v0 S fun v109 S =>
 uLen true v109 S fun v110 S =>
 uCmp ltN .lss v106 v110 S fun v111 S =>
 eT v111 fun b => cn b
 (uGet 0 v0 S fun v114 S =>
 uGet 1 v0 S fun v117 S =>
 uIdxS v114 v117 S fun v118 S =>
 uCall C 39 [v118] S fun v119 S =>
 eT v119 fun b => cn b
 (κ .normal (.mk v0 v2 v3 v4 v5 (.t true) v75 v83 v103) S)
 (uGet 0 v0 S fun v122 S =>
 uGet 1 v0 S fun v125 S =>
 uIdxS v122 v125 S fun v126 S =>
 uCall C 41 [v126] S fun v127 S =>
 eT v127 fun b => cn b
 (κ .normal (.mk v0 v2 v3 v4 v5 (.t true) v75 v83 v103) S)
 (uGet 0 v0 S fun v130 S =>
 uGet 1 v0 S fun v133 S =>
 uIdxS v130 v133 S fun v134 S =>
 uEq false .eql v134 (.b 46) S fun v135 S =>
 κ .normal (.mk v0 v2 v3 v4 v5 v135 v75 v83 v103) S)))
 (κ .normal (.mk v0 v2 v3 v4 v5 (.t false) v75 v83 v103) S)) v
def u121_3 : W9 → FV := fun v => W9.rec (motive := fun _ => FV) (fun v0 v2 v3 v4 v5 v55 v75 v83 v103 => v55) v
def u121_4 (C : CU) : CdU W9 := fun v S κ => W9.rec (motive := fun _ => RU) (fun v0 v2 v3 v4 v5 v55 v75 v83 v103 => 
 uGet 1 v0 S fun v106 S =>
 uAdd v106 (.n 1) S fun v107 S =>
 uNilc v0 S fun v108 S =>
 uFad 1 v108 S fun v109 S =>
 uSt 1 v109 v107 S fun v110 S =>
 κ .normal (.mk v0 v2 v3 v4 v5 v55 v75 v83 v103) S) v
def u121_5 (C : CU) (n : Nat) : CdU W9 := seqU (seqU (u121_2 C) (condU u121_3 (skipU) (exitU 0))) (blockU 1 (u121_4 C))
def u121_6 (C : CU) : CdU W9 := fun v S κ => W9.rec (motive := fun _ => RU) (fun v0 v2 v3 v4 v5 v55 v75 v83 v103 => 
 uGet 0 v0 S fun v106 S =>
 uGet 1 v0 S fun v109 S =>
 uSlS v106 (some v3) (some v109) S fun v110 S =>
 κ .normal (.mk v0 v2 v3 v110 v5 v55 v75 v83 v103) S) v
def u121_7 (C : CU) : CdU W9 := fun v S κ => W9.rec (motive := fun _ => RU) (fun v0 v2 v3 v4 v5 v55 v75 v83 v103 => 
 uLen true v4 S fun v104 S =>
 uCmp (fun a b => ltN b a) .gtr v104 (.n 120) S fun v105 S =>
 κ .normal (.mk v0 v2 v3 v4 v5 v55 v105 v83 v103) S) v
def u121_8 : W9 → FV := fun v => W9.rec (motive := fun _ => FV) (fun v0 v2 v3 v4 v5 v55 v75 v83 v103 => v75) v
def u121_9 (C : CU) : CdU W9 := fun v S κ => W9.rec (motive := fun _ => RU) (fun v0 v2 v3 v4 v5 v55 v75 v83 v103 => 
 uCall C 120 [v0, (.n 4), v3] S fun v104 S =>
 κ .normal (.mk v0 v2 v3 v4 v5 v55 v75 v83 v103) S) v
def u121_10 (C : CU) : CdU W9 := fun v S κ => W9.rec (motive := fun _ => RU) (fun v0 v2 v3 v4 v5 v55 v75 v83 v103 => 
 uBuildF [(.n 0), (.s []), (.n 0), (.i .u64 0), (.n 0)] [] S fun v104 S =>
 uSt 5 v2 v104 S fun v105 S =>
 κ .normal (.mk v0 v2 v3 v4 v5 v55 v75 v83 v103) S) v
def u121_11 (C : CU) : CdU W9 := fun v S κ => W9.rec (motive := fun _ => RU) (fun v0 v2 v3 v4 v5 v55 v75 v83 v103 => 
 κ .normal (.mk v0 v2 v3 v4 (.n 0) v55 v75 v83 v103) S) v
def u121_12 (C : CU) : CdU W9 := fun v S κ => W9.rec (motive := fun _ => RU) (fun v0 v2 v3 v4 v5 v55 v75 v83 v103 => 
 uLen true v4 S fun v104 S =>
 uCmp ltN .lss v5 v104 S fun v105 S =>
 κ .normal (.mk v0 v2 v3 v4 v5 v55 v75 v105 v103) S) v
def u121_13 : W9 → FV := fun v => W9.rec (motive := fun _ => FV) (fun v0 v2 v3 v4 v5 v55 v75 v83 v103 => v83) v
def u121_14 (C : CU) : CdU W9 := fun v S κ => W9.rec (motive := fun _ => RU) (fun v0 v2 v3 v4 v5 v55 v75 v83 v103 => 
 uIdxS v4 v5 S fun v104 S =>
 uEq false .eql v104 (.b 46) S fun v105 S =>
 eT v105 fun b => cn b
 (uLen true v4 S fun v106 S =>
 uSub v106 (.n 1) S fun v107 S =>
 uEq false .eql v5 v107 S fun v108 S =>
 eT v108 fun b => cn b
 (κ .normal (.mk v0 v2 v3 v4 v5 v55 v75 v83 (.t true)) S)
 (uAdd v5 (.n 1) S fun v109 S =>
 uIdxS v4 v109 S fun v110 S =>
 uEq false .eql v110 (.b 46) S fun v111 S =>
 κ .normal (.mk v0 v2 v3 v4 v5 v55 v75 v83 v111) S))
 (κ .normal (.mk v0 v2 v3 v4 v5 v55 v75 v83 (.t false)) S)) v
def u121_15 : W9 → FV := fun v => W9.rec (motive := fun _ => FV) (fun v0 v2 v3 v4 v5 v55 v75 v83 v103 => v103) v
def u121_16 (C : CU) : CdU W9 := fun v S κ => W9.rec (motive := fun _ => RU) (fun v0 v2 v3 v4 v5 v55 v75 v83 v103 => 
 uCall C 120 [v0, (.n 2), v3] S fun v104 S =>
 κ .normal (.mk v0 v2 v3 v4 v5 v55 v75 v83 v103) S) v
def u121_17 (C : CU) : CdU W9 := fun v S κ => W9.rec (motive := fun _ => RU) (fun v0 v2 v3 v4 v5 v55 v75 v83 v103 => 
 uAdd v5 (.n 1) S fun v104 S =>
 κ .normal (.mk v0 v2 v3 v4 v104 v55 v75 v83 v103) S) v
def u121_18 (C : CU) (n : Nat) : CdU W9 := seqU (seqU (u121_12 C) (condU u121_13 (skipU) (exitU 2))) (seqU (blockU 3 (seqU (u121_14 C) (condU u121_15 (u121_16 C) (skipU)))) (u121_17 C))
def u121_19 (C : CU) : CdU W9 := fun v S κ => W9.rec (motive := fun _ => RU) (fun v0 v2 v3 v4 v5 v55 v75 v83 v103 => 
 uBuildF [(.n 0), (.s []), (.n 0), (.i .u64 0), (.n 0)] [(0, 1, (.n 1)), (1, 1, v4), (4, 1, v3)] S fun v104 S =>
 uSt 5 v2 v104 S fun v105 S =>
 κ .normal (.mk v0 v2 v3 v4 v5 v55 v75 v83 v103) S) v
def u121r (v : W9) (S : FAW) : RU := W9.rec (motive := fun _ => RU) (fun v0 v2 v3 v4 v5 v55 v75 v83 v103 => uLd (some 5) v2 S fun r2 _ => .ok r2 S) v
def u121 : Fu := fun C n args S => (seqU (u121_0 C) (seqU (u121_1 C) (seqU (blockU 0 (loopU n (u121_5 C n))) (seqU (u121_6 C) (seqU (seqU (u121_7 C) (condU u121_8 (seqU (u121_9 C) (seqU (u121_10 C) (retU))) (skipU))) (seqU (seqU (u121_11 C) (blockU 2 (loopU n (u121_18 C n)))) (seqU (u121_19 C) (retU))))))) : CdU W9) (.mk (argU args 0) (argU args 2) (argU args 3) (argU args 4) (argU args 5) (argU args 55) (argU args 75) (argU args 83) (argU args 103)) S fun o v S => exU o (u121r v S) (fun _ => .no) (u121r v S)
/-! (*assayer/assayerref5.lexer).number -/
def u122_0 (C : CU) : CdU W14 := fun v S κ => W14.rec (motive := fun _ => RU) (fun v0 v2 v3 v4 v5 v6 v7 v38 v62 v97 v140 v186 v194 v206 => 
 uNewF 137 5 [(.n 0), (.s []), (.n 0), (.i .u64 0), (.n 0)] S fun v207 S =>
 κ .normal (.mk v0 v207 v3 v4 v5 v6 v7 v38 v62 v97 v140 v186 v194 v206) S) v
def u122_1 (C : CU) : CdU W14 := fun v S κ => W14.rec (motive := fun _ => RU) (fun v0 v2 v3 v4 v5 v6 v7 v38 v62 v97 v140 v186 v194 v206 => 
 uGet 1 v0 S fun v209 S =>
 κ .normal (.mk v0 v2 v209 v4 v5 v6 v7 v38 v62 v97 v140 v186 v194 v206) S) v
def u122_2 (C : CU) : CdU W14 := fun v S κ => W14.rec (motive := fun _ => RU) (fun v0 v2 v3 v4 v5 v6 v7 v38 v62 v97 v140 v186 v194 v206 => 
 uGet 0 v0 S fun v209 S =>
 uCall C 119 [v209, v3, (.s [48, 120])] S fun v210 S =>
 eT v210 fun b => cn b
 (uAdd v3 (.n 2) S fun v211 S =>
 uGet 0 v0 S fun v214 S =>
 uLen true v214 S fun v215 S =>
 uCmp ltN .lss v211 v215 S fun v216 S =>
 eT v216 fun b => cn b
 (uGet 0 v0 S fun v219 S =>
 uAdd v3 (.n 2) S fun v220 S =>
 uIdxS v219 v220 S fun v221 S =>
 uCall C 136 [v221] S fun v222 S =>
 uCmp (fun a b => Nat.ble b a) .geq v222 (.n 0) S fun v223 S =>
 κ .normal (.mk v0 v2 v3 v4 v5 v6 v7 v223 v62 v97 v140 v186 v194 v206) S)
 (κ .normal (.mk v0 v2 v3 v4 v5 v6 v7 (.t false) v62 v97 v140 v186 v194 v206) S))
 (κ .normal (.mk v0 v2 v3 v4 v5 v6 v7 (.t false) v62 v97 v140 v186 v194 v206) S)) v
def u122_3 : W14 → FV := fun v => W14.rec (motive := fun _ => FV) (fun v0 v2 v3 v4 v5 v6 v7 v38 v62 v97 v140 v186 v194 v206 => v38) v
def u122_4 (C : CU) : CdU W14 := fun v S κ => W14.rec (motive := fun _ => RU) (fun v0 v2 v3 v4 v5 v6 v7 v38 v62 v97 v140 v186 v194 v206 => 
 uCall C 137 [v0] S fun v207 S =>
 uSt 5 v2 v207 S fun v208 S =>
 κ .normal (.mk v0 v2 v3 v4 v5 v6 v7 v38 v62 v97 v140 v186 v194 v206) S) v
def u122_5 (C : CU) : CdU W14 := fun v S κ => W14.rec (motive := fun _ => RU) (fun v0 v2 v3 v4 v5 v6 v7 v38 v62 v97 v140 v186 v194 v206 => 
 uGet 0 v0 S fun v209 S =>
 uGet 1 v0 S fun v212 S =>
 uIdxS v209 v212 S fun v213 S =>
 uEq false .eql v213 (.b 43) S fun v214 S =>
 eT v214 fun b => cn b
 (κ .normal (.mk v0 v2 v3 v4 v5 v6 v7 v38 (.t true) v97 v140 v186 v194 v206) S)
 (uGet 0 v0 S fun v217 S =>
 uGet 1 v0 S fun v220 S =>
 uIdxS v217 v220 S fun v221 S =>
 uEq false .eql v221 (.b 45) S fun v222 S =>
 κ .normal (.mk v0 v2 v3 v4 v5 v6 v7 v38 v222 v97 v140 v186 v194 v206) S)) v
def u122_6 : W14 → FV := fun v => W14.rec (motive := fun _ => FV) (fun v0 v2 v3 v4 v5 v6 v7 v38 v62 v97 v140 v186 v194 v206 => v62) v
def u122_7 (C : CU) : CdU W14 := fun v S κ => W14.rec (motive := fun _ => RU) (fun v0 v2 v3 v4 v5 v6 v7 v38 v62 v97 v140 v186 v194 v206 => 
 uGet 1 v0 S fun v209 S =>
 uAdd v209 (.n 1) S fun v210 S =>
 uNilc v0 S fun v211 S =>
 uFad 1 v211 S fun v212 S =>
 uSt 1 v212 v210 S fun v213 S =>
 κ .normal (.mk v0 v2 v3 v4 v5 v6 v7 v38 v62 v97 v140 v186 v194 v206) S) v
def u122_8 (C : CU) : CdU W14 := fun v S κ => W14.rec (motive := fun _ => RU) (fun v0 v2 v3 v4 v5 v6 v7 v38 v62 v97 v140 v186 v194 v206 => 
 uCall C 138 [v0] S fun v207 S =>
 κ .normal (.mk v0 v2 v3 v4 v5 v6 v7 v38 v62 v97 v140 v186 v194 v206) S) v
def u122_9 (C : CU) : CdU W14 := fun v S κ => W14.rec (motive := fun _ => RU) (fun v0 v2 v3 v4 v5 v6 v7 v38 v62 v97 v140 v186 v194 v206 => 
 κ .normal (.mk v0 v2 v3 (.t true) v5 v6 v7 v38 v62 v97 v140 v186 v194 v206) S) v
def u122_10 (C : CU) : CdU W14 := fun v S κ => W14.rec (motive := fun _ => RU) (fun v0 v2 v3 v4 v5 v6 v7 v38 v62 v97 v140 v186 v194 v206 => 
 uGet 1 v0 S fun v209 S =>
 uGet 0 v0 S fun v212 S =>
 uLen true v212 S fun v213 S =>
 uCmp ltN .lss v209 v213 S fun v214 S =>
 eT v214 fun b => cn b
 (uGet 0 v0 S fun v217 S =>
 uGet 1 v0 S fun v220 S =>
 uIdxS v217 v220 S fun v221 S =>
 uEq false .eql v221 (.b 46) S fun v222 S =>
 eT v222 fun b => cn b
 (uCall C 139 [v0, (.n 1)] S fun v223 S =>
 κ .normal (.mk v0 v2 v3 v4 v5 v6 v7 v38 v62 v223 v140 v186 v194 v206) S)
 (κ .normal (.mk v0 v2 v3 v4 v5 v6 v7 v38 v62 (.t false) v140 v186 v194 v206) S))
 (κ .normal (.mk v0 v2 v3 v4 v5 v6 v7 v38 v62 (.t false) v140 v186 v194 v206) S)) v
def u122_11 : W14 → FV := fun v => W14.rec (motive := fun _ => FV) (fun v0 v2 v3 v4 v5 v6 v7 v38 v62 v97 v140 v186 v194 v206 => v97) v
def u122_12 (C : CU) : CdU W14 := fun v S κ => W14.rec (motive := fun _ => RU) (fun v0 v2 v3 v4 v5 v6 v7 v38 v62 v97 v140 v186 v194 v206 => 
 κ .normal (.mk v0 v2 v3 (.t false) v5 v6 v7 v38 v62 v97 v140 v186 v194 v206) S) v
def u122_13 (C : CU) : CdU W14 := fun v S κ => W14.rec (motive := fun _ => RU) (fun v0 v2 v3 v4 v5 v6 v7 v38 v62 v97 v140 v186 v194 v206 => 
 uGet 1 v0 S fun v209 S =>
 uAdd v209 (.n 1) S fun v210 S =>
 uNilc v0 S fun v211 S =>
 uFad 1 v211 S fun v212 S =>
 uSt 1 v212 v210 S fun v213 S =>
 κ .normal (.mk v0 v2 v3 v4 v5 v6 v7 v38 v62 v97 v140 v186 v194 v206) S) v
def u122_14 (C : CU) : CdU W14 := fun v S κ => W14.rec (motive := fun _ => RU) (fun v0 v2 v3 v4 v5 v6 v7 v38 v62 v97 v140 v186 v194 v206 => 
 uCall C 138 [v0] S fun v207 S =>
 κ .normal (.mk v0 v2 v3 v4 v5 v6 v7 v38 v62 v97 v140 v186 v194 v206) S) v
def u122_15 (C : CU) : CdU W14 := fun v S κ => W14.rec (motive := fun _ => RU) (fun v0 v2 v3 v4 v5 v6 v7 v38 v62 v97 v140 v186 v194 v206 => 
 uGet 1 v0 S fun v209 S =>
 uGet 0 v0 S fun v212 S =>
 uLen true v212 S fun v213 S =>
 uCmp ltN .lss v209 v213 S fun v214 S =>
 eT v214 fun b => cn b
 (uGet 0 v0 S fun v217 S =>
 uGet 1 v0 S fun v220 S =>
 uIdxS v217 v220 S fun v221 S =>
 uEq false .eql v221 (.b 101) S fun v222 S =>
 eT v222 fun b => cn b
 (κ .normal (.mk v0 v2 v3 v4 v5 v6 v7 v38 v62 v97 (.t true) v186 v194 v206) S)
 (uGet 0 v0 S fun v225 S =>
 uGet 1 v0 S fun v228 S =>
 uIdxS v225 v228 S fun v229 S =>
 uEq false .eql v229 (.b 69) S fun v230 S =>
 κ .normal (.mk v0 v2 v3 v4 v5 v6 v7 v38 v62 v97 v230 v186 v194 v206) S))
 (κ .normal (.mk v0 v2 v3 v4 v5 v6 v7 v38 v62 v97 (.t false) v186 v194 v206) S)) v
def u122_16 : W14 → FV := fun v => W14.rec (motive := fun _ => FV) (fun v0 v2 v3 v4 v5 v6 v7 v38 v62 v97 v140 v186 v194 v206 => v140) v
def u122_17 (C : CU) : CdU W14 := fun v S κ => W14.rec (motive := fun _ => RU) (fun v0 v2 v3 v4 v5 v6 v7 v38 v62 v97 v140 v186 v194 v206 => 
 uGet 1 v0 S fun v209 S =>
 uAdd v209 (.n 1) S fun v210 S =>
 uGet 0 v0 S fun v213 S =>
 uLen true v213 S fun v214 S =>
 uCmp ltN .lss v210 v214 S fun v215 S =>
 eT v215 fun b => cn b
 (uGet 0 v0 S fun v218 S =>
 uGet 1 v0 S fun v221 S =>
 uAdd v221 (.n 1) S fun v222 S =>
 uIdxS v218 v222 S fun v223 S =>
 uEq false .eql v223 (.b 43) S fun v224 S =>
 eT v224 fun b => cn b
 (κ .normal (.mk v0 v2 v3 v4 (.t true) v6 v7 v38 v62 v97 v140 v186 v194 v206) S)
 (uGet 0 v0 S fun v227 S =>
 uGet 1 v0 S fun v230 S =>
 uAdd v230 (.n 1) S fun v231 S =>
 uIdxS v227 v231 S fun v232 S =>
 uEq false .eql v232 (.b 45) S fun v233 S =>
 κ .normal (.mk v0 v2 v3 v4 v233 v6 v7 v38 v62 v97 v140 v186 v194 v206) S))
 (κ .normal (.mk v0 v2 v3 v4 (.t false) v6 v7 v38 v62 v97 v140 v186 v194 v206) S)) v
def u122_18 (C : CU) : CdU W14 := fun v S κ => W14.rec (motive := fun _ => RU) (fun v0 v2 v3 v4 v5 v6 v7 v38 v62 v97 v140 v186 v194 v206 => 
 uCall C 139 [v0, (.n 1)] S fun v207 S =>
 eT v207 fun b => cn b
 (κ .normal (.mk v0 v2 v3 v4 v5 v6 v7 v38 v62 v97 v140 (.t true) v194 v206) S)
 (eT v5 fun b => cn b
 (uCall C 139 [v0, (.n 2)] S fun v208 S =>
 κ .normal (.mk v0 v2 v3 v4 v5 v6 v7 v38 v62 v97 v140 v208 v194 v206) S)
 (κ .normal (.mk v0 v2 v3 v4 v5 v6 v7 v38 v62 v97 v140 (.t false) v194 v206) S))) v
def u122_19 : W14 → FV := fun v => W14.rec (motive := fun _ => FV) (fun v0 v2 v3 v4 v5 v6 v7 v38 v62 v97 v140 v186 v194 v206 => v186) v
def u122_20 (C : CU) : CdU W14 := fun v S κ => W14.rec (motive := fun _ => RU) (fun v0 v2 v3 v4 v5 v6 v7 v38 v62 v97 v140 v186 v194 v206 => 
 κ .normal (.mk v0 v2 v3 (.t false) v5 v6 v7 v38 v62 v97 v140 v186 v194 v206) S) v
def u122_21 (C : CU) : CdU W14 := fun v S κ => W14.rec (motive := fun _ => RU) (fun v0 v2 v3 v4 v5 v6 v7 v38 v62 v97 v140 v186 v194 v206 => 
 uGet 1 v0 S fun v209 S =>
 uAdd v209 (.n 1) S fun v210 S =>
 uNilc v0 S fun v211 S =>
 uFad 1 v211 S fun v212 S =>
 uSt 1 v212 v210 S fun v213 S =>
 κ .normal (.mk v0 v2 v3 v4 v5 v6 v7 v38 v62 v97 v140 v186 v194 v206) S) v
def u122_22 (C : CU) : CdU W14 := fun v S κ => W14.rec (motive := fun _ => RU) (fun v0 v2 v3 v4 v5 v6 v7 v38 v62 v97 v140 v186 v194 v206 => 
 κ .normal (.mk v0 v2 v3 v4 v5 v6 v7 v38 v62 v97 v140 v186 v5 v206) S) v
def u122_23 : W14 → FV := fun v => W14.rec (motive := fun _ => FV) (fun v0 v2 v3 v4 v5 v6 v7 v38 v62 v97 v140 v186 v194 v206 => v194) v
def u122_24 (C : CU) : CdU W14 := fun v S κ => W14.rec (motive := fun _ => RU) (fun v0 v2 v3 v4 v5 v6 v7 v38 v62 v97 v140 v186 v194 v206 => 
 uGet 1 v0 S fun v209 S =>
 uAdd v209 (.n 1) S fun v210 S =>
 uNilc v0 S fun v211 S =>
 uFad 1 v211 S fun v212 S =>
 uSt 1 v212 v210 S fun v213 S =>
 κ .normal (.mk v0 v2 v3 v4 v5 v6 v7 v38 v62 v97 v140 v186 v194 v206) S) v
def u122_25 (C : CU) : CdU W14 := fun v S κ => W14.rec (motive := fun _ => RU) (fun v0 v2 v3 v4 v5 v6 v7 v38 v62 v97 v140 v186 v194 v206 => 
 uCall C 138 [v0] S fun v207 S =>
 κ .normal (.mk v0 v2 v3 v4 v5 v6 v7 v38 v62 v97 v140 v186 v194 v206) S) v
def u122_26 (C : CU) : CdU W14 := fun v S κ => W14.rec (motive := fun _ => RU) (fun v0 v2 v3 v4 v5 v6 v7 v38 v62 v97 v140 v186 v194 v206 => 
 uBuildF [(.n 0), (.s []), (.n 0), (.i .u64 0), (.n 0)] [(0, 1, (.n 3)), (4, 1, v3)] S fun v207 S =>
 uNewF 137 5 [(.n 0), (.s []), (.n 0), (.i .u64 0), (.n 0)] S fun v208 S =>
 uSt 5 v208 v207 S fun v209 S =>
 κ .normal (.mk v0 v2 v3 v4 v5 v208 v7 v38 v62 v97 v140 v186 v194 v206) S) v
def u122_27 (C : CU) : CdU W14 := fun v S κ => W14.rec (motive := fun _ => RU) (fun v0 v2 v3 v4 v5 v6 v7 v38 v62 v97 v140 v186 v194 v206 => 
 κ .normal (.mk v0 v2 v3 v4 v5 v6 (.n 0) v38 v62 v97 v140 v186 v194 v206) S) v
def u122_28 (C : CU) : CdU W14 := fun v S κ => W14.rec (motive := fun _ => RU) (fun v0 v2 v3 v4 v5 v6 v7 v38 v62 v97 v140 v186 v194 v206 => 
 κ .normal (.mk v0 v2 v3 v4 v5 v6 v7 v38 v62 v97 v140 v186 v194 v4) S) v
def u122_29 : W14 → FV := fun v => W14.rec (motive := fun _ => FV) (fun v0 v2 v3 v4 v5 v6 v7 v38 v62 v97 v140 v186 v194 v206 => v206) v
def u122_30 (C : CU) : CdU W14 := fun v S κ => W14.rec (motive := fun _ => RU) (fun v0 v2 v3 v4 v5 v6 v7 v38 v62 v97 v140 v186 v194 v206 => 
 uFad 0 v6 S fun v207 S =>
 uSt 1 v207 (.n 2) S fun v208 S =>
 κ .normal (.mk v0 v2 v3 v4 v5 v6 v7 v38 v62 v97 v140 v186 v194 v206) S) v
def u122_31 (C : CU) : CdU W14 := fun v S κ => W14.rec (motive := fun _ => RU) (fun v0 v2 v3 v4 v5 v6 v7 v38 v62 v97 v140 v186 v194 v206 => 
 uGet 0 v0 S fun v209 S =>
 uGet 1 v0 S fun v212 S =>
 uSlS v209 (some v3) (some v212) S fun v213 S =>
 uCall C 140 [v213] S fun v214 S =>
 uExt 0 v214 S fun v215 S =>
 uExt 1 v214 S fun v216 S =>
 uFad 2 v6 S fun v217 S =>
 uSt 1 v217 v215 S fun v218 S =>
 κ .normal (.mk v0 v2 v3 v4 v5 v6 v216 v38 v62 v97 v140 v186 v194 v206) S) v
def u122_32 (C : CU) : CdU W14 := fun v S κ => W14.rec (motive := fun _ => RU) (fun v0 v2 v3 v4 v5 v6 v7 v38 v62 v97 v140 v186 v194 v206 => 
 uGet 0 v0 S fun v209 S =>
 uGet 1 v0 S fun v212 S =>
 uSlS v209 (some v3) (some v212) S fun v213 S =>
 uCall C 141 [v213] S fun v214 S =>
 uExt 0 v214 S fun v215 S =>
 uExt 1 v214 S fun v216 S =>
 uFad 3 v6 S fun v217 S =>
 uSt 1 v217 v215 S fun v218 S =>
 κ .normal (.mk v0 v2 v3 v4 v5 v6 v216 v38 v62 v97 v140 v186 v194 v206) S) v
def u122_33 (C : CU) : CdU W14 := fun v S κ => W14.rec (motive := fun _ => RU) (fun v0 v2 v3 v4 v5 v6 v7 v38 v62 v97 v140 v186 v194 v206 => 
 uLd (some 5) v6 S fun v207 S =>
 uCall C 142 [v0, v207, v7] S fun v208 S =>
 uSt 5 v2 v208 S fun v209 S =>
 κ .normal (.mk v0 v2 v3 v4 v5 v6 v7 v38 v62 v97 v140 v186 v194 v206) S) v
def u122r (v : W14) (S : FAW) : RU := W14.rec (motive := fun _ => RU) (fun v0 v2 v3 v4 v5 v6 v7 v38 v62 v97 v140 v186 v194 v206 => uLd (some 5) v2 S fun r2 _ => .ok r2 S) v
def u122 : Fu := fun C n args S => (seqU (u122_0 C) (seqU (u122_1 C) (seqU (seqU (u122_2 C) (condU u122_3 (seqU (u122_4 C) (retU)) (skipU))) (seqU (seqU (u122_5 C) (condU u122_6 (u122_7 C) (skipU))) (seqU (u122_8 C) (seqU (u122_9 C) (seqU (seqU (u122_10 C) (condU u122_11 (seqU (u122_12 C) (seqU (u122_13 C) (u122_14 C))) (skipU))) (seqU (seqU (u122_15 C) (condU u122_16 (seqU (u122_17 C) (seqU (u122_18 C) (condU u122_19 (seqU (u122_20 C) (seqU (u122_21 C) (seqU (seqU (u122_22 C) (condU u122_23 (u122_24 C) (skipU))) (u122_25 C)))) (skipU)))) (skipU))) (seqU (u122_26 C) (seqU (u122_27 C) (seqU (seqU (u122_28 C) (condU u122_29 (seqU (u122_30 C) (u122_31 C)) (u122_32 C))) (seqU (u122_33 C) (retU)))))))))))) : CdU W14) (.mk (argU args 0) (argU args 2) (argU args 3) (argU args 4) (argU args 5) (argU args 6) (argU args 7) (argU args 38) (argU args 62) (argU args 97) (argU args 140) (argU args 186) (argU args 194) (argU args 206)) S fun o v S => exU o (u122r v S) (fun _ => .no) (u122r v S)
/-! (*assayer/assayerref5.parser).is -/
def u123_0 (C : CU) : CdU W3 := fun v S κ => W3.rec (motive := fun _ => RU) (fun v0 v1 v4 => 
 κ .normal (.mk v0 v1 (.t false)) S) v
def u123_1 (C : CU) : CdU W3 := fun v S κ => W3.rec (motive := fun _ => RU) (fun v0 v1 v4 => 
 uGet 2 v0 S fun v7 S =>
 uEq false .eql v7 (.n 0) S fun v8 S =>
 eT v8 fun b => cn b
 (uCall C 64 [v0] S fun v9 S =>
 uFld none 0 v9 S fun v10 S =>
 uEq false .eql v10 (.n 5) S fun v11 S =>
 eT v11 fun b => cn b
 (uCall C 64 [v0] S fun v12 S =>
 uFld none 1 v12 S fun v13 S =>
 uEq false .eql v13 v1 S fun v14 S =>
 κ .normal (.mk v0 v1 v14) S)
 (κ .normal (.mk v0 v1 (.t false)) S))
 (κ .normal (.mk v0 v1 (.t false)) S)) v
def u123r (v : W3) (S : FAW) : RU := W3.rec (motive := fun _ => RU) (fun v0 v1 v4 => .ok v4 S) v
def u123 : Fu := fun C n args S => (seqU (u123_0 C) (seqU (u123_1 C) (retU)) : CdU W3) (.mk (argU args 0) (argU args 1) (argU args 4)) S fun o v S => exU o (u123r v S) (fun _ => .no) (u123r v S)
/-! assayer/assayerref5.Far -/
def u124_0 (C : CU) : CdU W8 := fun v S κ => W8.rec (motive := fun _ => RU) (fun v0 v2 v3 v4 v5 v9 v15 v25 => 
 κ .normal (.mk v0 (.t false) v3 v4 v5 v9 v15 v25) S) v
def u124_1 (C : CU) : CdU W8 := fun v S κ => W8.rec (motive := fun _ => RU) (fun v0 v2 v3 v4 v5 v9 v15 v25 => 
 κ .normal (.mk v0 v2 (.n 1) (.s []) v5 v9 v15 v25) S) v
def u124_2 (C : CU) : CdU W8 := fun v S κ => W8.rec (motive := fun _ => RU) (fun v0 v2 v3 v4 v5 v9 v15 v25 => 
 κ .normal (.mk v0 v2 v3 v4 (.n 0) v9 v15 v25) S) v
def u124_3 (C : CU) : CdU W8 := fun v S κ => W8.rec (motive := fun _ => RU) (fun v0 v2 v3 v4 v5 v9 v15 v25 => 
 uLen true v0 S fun v26 S =>
 uCmp ltN .lss v5 v26 S fun v27 S =>
 κ .normal (.mk v0 v2 v3 v4 v5 v27 v15 v25) S) v
def u124_4 : W8 → FV := fun v => W8.rec (motive := fun _ => FV) (fun v0 v2 v3 v4 v5 v9 v15 v25 => v9) v
def u124_5 (C : CU) : CdU W8 := fun v S κ => W8.rec (motive := fun _ => RU) (fun v0 v2 v3 v4 v5 v9 v15 v25 => 
 uIdxS v0 v5 S fun v26 S =>
 uEq true .neq v26 (.b 46) S fun v27 S =>
 κ .normal (.mk v0 v2 v3 v4 v5 v9 v27 v25) S) v
def u124_6 : W8 → FV := fun v => W8.rec (motive := fun _ => FV) (fun v0 v2 v3 v4 v5 v9 v15 v25 => v15) v
def u124_7 (C : CU) : CdU W8 := fun v S κ => W8.rec (motive := fun _ => RU) (fun v0 v2 v3 v4 v5 v9 v15 v25 => 
 uAdd v5 (.n 1) S fun v26 S =>
 uSlS v0 (some v5) (some v26) S fun v27 S =>
 uAdd v4 v27 S fun v28 S =>
 κ .normal (.mk v0 v2 v3 v28 v5 v9 v15 v25) S) v
def u124_8 (C : CU) : CdU W8 := fun v S κ => W8.rec (motive := fun _ => RU) (fun v0 v2 v3 v4 v5 v9 v15 v25 => 
 uCall C 18 [v4] S fun v26 S =>
 uNot v26 S fun v27 S =>
 κ .normal (.mk v0 v2 v3 v4 v5 v9 v15 v27) S) v
def u124_9 : W8 → FV := fun v => W8.rec (motive := fun _ => FV) (fun v0 v2 v3 v4 v5 v9 v15 v25 => v25) v
def u124_10 (C : CU) : CdU W8 := fun v S κ => W8.rec (motive := fun _ => RU) (fun v0 v2 v3 v4 v5 v9 v15 v25 => 
 κ .normal (.mk v0 (.t false) v3 v4 v5 v9 v15 v25) S) v
def u124_11 (C : CU) : CdU W8 := fun v S κ => W8.rec (motive := fun _ => RU) (fun v0 v2 v3 v4 v5 v9 v15 v25 => 
 uAdd v3 (.n 1) S fun v26 S =>
 κ .normal (.mk v0 v2 v26 (.s []) v5 v9 v15 v25) S) v
def u124_12 (C : CU) : CdU W8 := fun v S κ => W8.rec (motive := fun _ => RU) (fun v0 v2 v3 v4 v5 v9 v15 v25 => 
 uAdd v5 (.n 1) S fun v26 S =>
 κ .normal (.mk v0 v2 v3 v4 v26 v9 v15 v25) S) v
def u124_13 (C : CU) (n : Nat) : CdU W8 := seqU (seqU (u124_3 C) (condU u124_4 (skipU) (exitU 0))) (seqU (blockU 1 (seqU (seqU (u124_5 C) (condU u124_6 (seqU (u124_7 C) (exitU 1)) (skipU))) (seqU (seqU (u124_8 C) (condU u124_9 (seqU (u124_10 C) (retU)) (skipU))) (u124_11 C)))) (u124_12 C))
def u124_14 (C : CU) : CdU W8 := fun v S κ => W8.rec (motive := fun _ => RU) (fun v0 v2 v3 v4 v5 v9 v15 v25 => 
 uCmp Nat.ble .leq v3 (.n 3) S fun v26 S =>
 eT v26 fun b => cn b
 (uCall C 18 [v4] S fun v27 S =>
 κ .normal (.mk v0 v27 v3 v4 v5 v9 v15 v25) S)
 (κ .normal (.mk v0 (.t false) v3 v4 v5 v9 v15 v25) S)) v
def u124r (v : W8) (S : FAW) : RU := W8.rec (motive := fun _ => RU) (fun v0 v2 v3 v4 v5 v9 v15 v25 => .ok v2 S) v
def u124 : Fu := fun C n args S => (seqU (u124_0 C) (seqU (u124_1 C) (seqU (seqU (u124_2 C) (blockU 0 (loopU n (u124_13 C n)))) (seqU (u124_14 C) (retU)))) : CdU W8) (.mk (argU args 0) (argU args 2) (argU args 3) (argU args 4) (argU args 5) (argU args 9) (argU args 15) (argU args 25)) S fun o v S => exU o (u124r v S) (fun _ => .no) (u124r v S)
/-! (*assayer/assayerref5.parser).items -/
def u125_0 (C : CU) : CdU W11 := fun v S κ => W11.rec (motive := fun _ => RU) (fun v0 v1 v4 v5 v6 v7 v9 v15 v29 v37 v50 => 
 uNewF 55 5 [(.n 0), (.n 0), (.i .u64 0), (.s []), .nl] S fun v51 S =>
 κ .normal (.mk v0 v1 v51 v5 v6 v7 v9 v15 v29 v37 v50) S) v
def u125_1 (C : CU) : CdU W11 := fun v S κ => W11.rec (motive := fun _ => RU) (fun v0 v1 v4 v5 v6 v7 v9 v15 v29 v37 v50 => 
 uCmp (fun a b => ltN b a) .gtr v1 (.n 12) S fun v51 S =>
 κ .normal (.mk v0 v1 v4 v5 v6 v7 v51 v15 v29 v37 v50) S) v
def u125_2 : W11 → FV := fun v => W11.rec (motive := fun _ => FV) (fun v0 v1 v4 v5 v6 v7 v9 v15 v29 v37 v50 => v9) v
def u125_3 (C : CU) : CdU W11 := fun v S κ => W11.rec (motive := fun _ => RU) (fun v0 v1 v4 v5 v6 v7 v9 v15 v29 v37 v50 => 
 uCall C 66 [v0, (.n 6)] S fun v51 S =>
 κ .normal (.mk v0 v1 v4 v5 v6 v7 v9 v15 v29 v37 v50) S) v
def u125_4 (C : CU) : CdU W11 := fun v S κ => W11.rec (motive := fun _ => RU) (fun v0 v1 v4 v5 v6 v7 v9 v15 v29 v37 v50 => 
 uBuildF [(.n 0), (.n 0), (.i .u64 0), (.s []), .nl] [] S fun v51 S =>
 uSt 5 v4 v51 S fun v52 S =>
 κ .normal (.mk v0 v1 v4 v5 v6 v7 v9 v15 v29 v37 v50) S) v
def u125_5 (C : CU) : CdU W11 := fun v S κ => W11.rec (motive := fun _ => RU) (fun v0 v1 v4 v5 v6 v7 v9 v15 v29 v37 v50 => 
 uBuildF [(.n 0), (.n 0), (.i .u64 0), (.s []), .nl] [(0, 1, (.n 5))] S fun v51 S =>
 uNewF 55 5 [(.n 0), (.n 0), (.i .u64 0), (.s []), .nl] S fun v52 S =>
 uSt 5 v52 v51 S fun v53 S =>
 κ .normal (.mk v0 v1 v4 v52 v6 v7 v9 v15 v29 v37 v50) S) v
def u125_6 (C : CU) : CdU W11 := fun v S κ => W11.rec (motive := fun _ => RU) (fun v0 v1 v4 v5 v6 v7 v9 v15 v29 v37 v50 => 
 κ .normal (.mk v0 v1 v4 v5 (.s [93]) v7 v9 v15 v29 v37 v50) S) v
def u125_7 (C : CU) : CdU W11 := fun v S κ => W11.rec (motive := fun _ => RU) (fun v0 v1 v4 v5 v6 v7 v9 v15 v29 v37 v50 => 
 uCall C 123 [v0, (.s [123])] S fun v51 S =>
 κ .normal (.mk v0 v1 v4 v5 v6 v7 v9 v51 v29 v37 v50) S) v
def u125_8 : W11 → FV := fun v => W11.rec (motive := fun _ => FV) (fun v0 v1 v4 v5 v6 v7 v9 v15 v29 v37 v50 => v15) v
def u125_9 (C : CU) : CdU W11 := fun v S κ => W11.rec (motive := fun _ => RU) (fun v0 v1 v4 v5 v6 v7 v9 v15 v29 v37 v50 => 
 uFad 0 v5 S fun v51 S =>
 uSt 1 v51 (.n 6) S fun v52 S =>
 κ .normal (.mk v0 v1 v4 v5 (.s [125]) v7 v9 v15 v29 v37 v50) S) v
def u125_10 (C : CU) : CdU W11 := fun v S κ => W11.rec (motive := fun _ => RU) (fun v0 v1 v4 v5 v6 v7 v9 v15 v29 v37 v50 => 
 uCall C 90 [v0] S fun v51 S =>
 κ .normal (.mk v0 v1 v4 v5 v6 v7 v9 v15 v29 v37 v50) S) v
def u125_11 (C : CU) : CdU W11 := fun v S κ => W11.rec (motive := fun _ => RU) (fun v0 v1 v4 v5 v6 v7 v9 v15 v29 v37 v50 => 
 κ .normal (.mk v0 v1 v4 v5 v6 (.n 0) v9 v15 v29 v37 v50) S) v
def u125_12 (C : CU) : CdU W11 := fun v S κ => W11.rec (motive := fun _ => RU) (fun v0 v1 v4 v5 v6 v7 v9 v15 v29 v37 v50 => 
 uGet 2 v0 S fun v53 S =>
 uEq false .eql v53 (.n 0) S fun v54 S =>
 eT v54 fun b => cn b
 (uCall C 123 [v0, v6] S fun v55 S =>
 uNot v55 S fun v56 S =>
 κ .normal (.mk v0 v1 v4 v5 v6 v7 v9 v15 v56 v37 v50) S)
 (κ .normal (.mk v0 v1 v4 v5 v6 v7 v9 v15 (.t false) v37 v50) S)) v
def u125_13 : W11 → FV := fun v => W11.rec (motive := fun _ => FV) (fun v0 v1 v4 v5 v6 v7 v9 v15 v29 v37 v50 => v29) v
def u125_14 (C : CU) : CdU W11 := fun v S κ => W11.rec (motive := fun _ => RU) (fun v0 v1 v4 v5 v6 v7 v9 v15 v29 v37 v50 => 
 uEq false .eql v7 (.n 40) S fun v51 S =>
 eT v51 fun b => cn b
 (uCall C 143 [v0] S fun v52 S =>
 κ .normal (.mk v0 v1 v4 v5 v6 v7 v9 v15 v29 v52 v50) S)
 (κ .normal (.mk v0 v1 v4 v5 v6 v7 v9 v15 v29 (.t false) v50) S)) v
def u125_15 : W11 → FV := fun v => W11.rec (motive := fun _ => FV) (fun v0 v1 v4 v5 v6 v7 v9 v15 v29 v37 v50 => v37) v
def u125_16 (C : CU) : CdU W11 := fun v S κ => W11.rec (motive := fun _ => RU) (fun v0 v1 v4 v5 v6 v7 v9 v15 v29 v37 v50 => 
 uCall C 66 [v0, (.n 4)] S fun v51 S =>
 κ .normal (.mk v0 v1 v4 v5 v6 v7 v9 v15 v29 v37 v50) S) v
def u125_17 (C : CU) : CdU W11 := fun v S κ => W11.rec (motive := fun _ => RU) (fun v0 v1 v4 v5 v6 v7 v9 v15 v29 v37 v50 => 
 uFad 4 v5 S fun v51 S =>
 uLd none v51 S fun v52 S =>
 uAdd v1 (.n 1) S fun v53 S =>
 uLd none v51 S fun u _ => veqU u v52
 (uCall C 96 [v0, v53] S fun v54 S =>
 uLitF 55 5 [(.n 0), (.n 0), (.i .u64 0), (.s []), .nl] 1 [(0, 5, v54)] S fun v55 S =>
 uLd none v51 S fun u _ => veqU u v52
 (uApp 55 5 64 v52 v55 S fun v56 S =>
 uFad 4 v5 S fun v57 S =>
 uSt 1 v57 v56 S fun v58 S =>
 κ .normal (.mk v0 v1 v4 v5 v6 v7 v9 v15 v29 v37 v50) S))) v
def u125_18 (C : CU) : CdU W11 := fun v S κ => W11.rec (motive := fun _ => RU) (fun v0 v1 v4 v5 v6 v7 v9 v15 v29 v37 v50 => 
 uEq false .eql v6 (.s [125]) S fun v51 S =>
 κ .normal (.mk v0 v1 v4 v5 v6 v7 v9 v15 v29 v37 v51) S) v
def u125_19 : W11 → FV := fun v => W11.rec (motive := fun _ => FV) (fun v0 v1 v4 v5 v6 v7 v9 v15 v29 v37 v50 => v50) v
def u125_20 (C : CU) : CdU W11 := fun v S κ => W11.rec (motive := fun _ => RU) (fun v0 v1 v4 v5 v6 v7 v9 v15 v29 v37 v50 => 
 uCall C 95 [v0, (.s [58])] S fun v51 S =>
 κ .normal (.mk v0 v1 v4 v5 v6 v7 v9 v15 v29 v37 v50) S) v
def u125_21 (C : CU) : CdU W11 := fun v S κ => W11.rec (motive := fun _ => RU) (fun v0 v1 v4 v5 v6 v7 v9 v15 v29 v37 v50 => 
 uFad 4 v5 S fun v51 S =>
 uLd none v51 S fun v52 S =>
 uAdd v1 (.n 1) S fun v53 S =>
 uLd none v51 S fun u _ => veqU u v52
 (uCall C 96 [v0, v53] S fun v54 S =>
 uLitF 55 5 [(.n 0), (.n 0), (.i .u64 0), (.s []), .nl] 1 [(0, 5, v54)] S fun v55 S =>
 uLd none v51 S fun u _ => veqU u v52
 (uApp 55 5 64 v52 v55 S fun v56 S =>
 uFad 4 v5 S fun v57 S =>
 uSt 1 v57 v56 S fun v58 S =>
 κ .normal (.mk v0 v1 v4 v5 v6 v7 v9 v15 v29 v37 v50) S))) v
def u125_22 (C : CU) : CdU W11 := fun v S κ => W11.rec (motive := fun _ => RU) (fun v0 v1 v4 v5 v6 v7 v9 v15 v29 v37 v50 => 
 uCall C 100 [v0] S fun v51 S =>
 κ .normal (.mk v0 v1 v4 v5 v6 v7 v9 v15 v29 v37 v50) S) v
def u125_23 (C : CU) : CdU W11 := fun v S κ => W11.rec (motive := fun _ => RU) (fun v0 v1 v4 v5 v6 v7 v9 v15 v29 v37 v50 => 
 uAdd v7 (.n 1) S fun v51 S =>
 κ .normal (.mk v0 v1 v4 v5 v6 v51 v9 v15 v29 v37 v50) S) v
def u125_24 (C : CU) (n : Nat) : CdU W11 := seqU (seqU (u125_12 C) (condU u125_13 (skipU) (exitU 0))) (seqU (blockU 1 (seqU (seqU (u125_14 C) (condU u125_15 (seqU (u125_16 C) (exitU 0)) (skipU))) (seqU (u125_17 C) (seqU (seqU (u125_18 C) (condU u125_19 (seqU (u125_20 C) (u125_21 C)) (skipU))) (u125_22 C))))) (u125_23 C))
def u125_25 (C : CU) : CdU W11 := fun v S κ => W11.rec (motive := fun _ => RU) (fun v0 v1 v4 v5 v6 v7 v9 v15 v29 v37 v50 => 
 uCall C 95 [v0, v6] S fun v51 S =>
 κ .normal (.mk v0 v1 v4 v5 v6 v7 v9 v15 v29 v37 v50) S) v
def u125_26 (C : CU) : CdU W11 := fun v S κ => W11.rec (motive := fun _ => RU) (fun v0 v1 v4 v5 v6 v7 v9 v15 v29 v37 v50 => 
 uLd (some 5) v5 S fun v51 S =>
 uSt 5 v4 v51 S fun v52 S =>
 κ .normal (.mk v0 v1 v4 v5 v6 v7 v9 v15 v29 v37 v50) S) v
def u125r (v : W11) (S : FAW) : RU := W11.rec (motive := fun _ => RU) (fun v0 v1 v4 v5 v6 v7 v9 v15 v29 v37 v50 => uLd (some 5) v4 S fun r4 _ => .ok r4 S) v
def u125 : Fu := fun C n args S => (seqU (u125_0 C) (seqU (seqU (u125_1 C) (condU u125_2 (seqU (u125_3 C) (seqU (u125_4 C) (retU))) (skipU))) (seqU (u125_5 C) (seqU (u125_6 C) (seqU (seqU (u125_7 C) (condU u125_8 (u125_9 C) (skipU))) (seqU (u125_10 C) (seqU (seqU (u125_11 C) (blockU 0 (loopU n (u125_24 C n)))) (seqU (u125_25 C) (seqU (u125_26 C) (retU))))))))) : CdU W11) (.mk (argU args 0) (argU args 1) (argU args 4) (argU args 5) (argU args 6) (argU args 7) (argU args 9) (argU args 15) (argU args 29) (argU args 37) (argU args 50)) S fun o v S => exU o (u125r v S) (fun _ => .no) (u125r v S)
/-! (*assayer/assayerref5.parser).fields -/
def u126_0 (C : CU) : CdU W11 := fun v S κ => W11.rec (motive := fun _ => RU) (fun v0 v1 v4 v5 v6 v17 v38 v45 v56 v59 v68 => 
 κ .normal (.mk v0 v1 .nl v5 v6 v17 v38 v45 v56 v59 v68) S) v
def u126_1 (C : CU) : CdU W11 := fun v S κ => W11.rec (motive := fun _ => RU) (fun v0 v1 v4 v5 v6 v17 v38 v45 v56 v59 v68 => 
 κ .normal (.mk v0 v1 v4 .nl v6 v17 v38 v45 v56 v59 v68) S) v
def u126_2 (C : CU) : CdU W11 := fun v S κ => W11.rec (motive := fun _ => RU) (fun v0 v1 v4 v5 v6 v17 v38 v45 v56 v59 v68 => 
 uGet 2 v0 S fun v71 S =>
 uEq false .eql v71 (.n 0) S fun v72 S =>
 eT v72 fun b => cn b
 (uCall C 123 [v0, v1] S fun v73 S =>
 uNot v73 S fun v74 S =>
 κ .normal (.mk v0 v1 v4 v5 v6 v74 v38 v45 v56 v59 v68) S)
 (κ .normal (.mk v0 v1 v4 v5 v6 (.t false) v38 v45 v56 v59 v68) S)) v
def u126_3 : W11 → FV := fun v => W11.rec (motive := fun _ => FV) (fun v0 v1 v4 v5 v6 v17 v38 v45 v56 v59 v68 => v17) v
def u126_4 (C : CU) : CdU W11 := fun v S κ => W11.rec (motive := fun _ => RU) (fun v0 v1 v4 v5 v6 v17 v38 v45 v56 v59 v68 => 
 uLen false v5 S fun v69 S =>
 uEq false .eql v69 (.n 30) S fun v70 S =>
 eT v70 fun b => cn b
 (uCall C 64 [v0] S fun v71 S =>
 uFld none 0 v71 S fun v72 S =>
 uEq false .eql v72 (.n 2) S fun v73 S =>
 eT v73 fun b => cn b
 (κ .normal (.mk v0 v1 v4 v5 v6 v17 (.t true) v45 v56 v59 v68) S)
 (uCall C 88 [v0, (.s [114, 101, 113, 117, 105, 114, 101, 100])] S fun v74 S =>
 eT v74 fun b => cn b
 (κ .normal (.mk v0 v1 v4 v5 v6 v17 (.t true) v45 v56 v59 v68) S)
 (uCall C 88 [v0, (.s [111, 112, 116, 105, 111, 110, 97, 108])] S fun v75 S =>
 eT v75 fun b => cn b
 (κ .normal (.mk v0 v1 v4 v5 v6 v17 (.t true) v45 v56 v59 v68) S)
 (uCall C 127 [v0] S fun v76 S =>
 κ .normal (.mk v0 v1 v4 v5 v6 v17 v76 v45 v56 v59 v68) S))))
 (κ .normal (.mk v0 v1 v4 v5 v6 v17 (.t false) v45 v56 v59 v68) S)) v
def u126_5 : W11 → FV := fun v => W11.rec (motive := fun _ => FV) (fun v0 v1 v4 v5 v6 v17 v38 v45 v56 v59 v68 => v38) v
def u126_6 (C : CU) : CdU W11 := fun v S κ => W11.rec (motive := fun _ => RU) (fun v0 v1 v4 v5 v6 v17 v38 v45 v56 v59 v68 => 
 uCall C 66 [v0, (.n 4)] S fun v69 S =>
 κ .normal (.mk v0 v1 v4 v5 v6 v17 v38 v45 v56 v59 v68) S) v
def u126_7 (C : CU) : CdU W11 := fun v S κ => W11.rec (motive := fun _ => RU) (fun v0 v1 v4 v5 v6 v17 v38 v45 v56 v59 v68 => 
 uBuildF [(.t false), (.n 0), (.n 0), (.s []), (.s []), (.t false), (.n 0), (.n 0), (.i .u64 0), (.s []), .nl] [] S fun v69 S =>
 uNewF 62 11 [(.t false), (.n 0), (.n 0), (.s []), (.s []), (.t false), (.n 0), (.n 0), (.i .u64 0), (.s []), .nl] S fun v70 S =>
 uSt 11 v70 v69 S fun v71 S =>
 κ .normal (.mk v0 v1 v4 v5 v70 v17 v38 v45 v56 v59 v68) S) v
def u126_8 (C : CU) : CdU W11 := fun v S κ => W11.rec (motive := fun _ => RU) (fun v0 v1 v4 v5 v6 v17 v38 v45 v56 v59 v68 => 
 uCall C 64 [v0] S fun v69 S =>
 uFld none 0 v69 S fun v70 S =>
 uEq false .eql v70 (.n 2) S fun v71 S =>
 κ .normal (.mk v0 v1 v4 v5 v6 v17 v38 v71 v56 v59 v68) S) v
def u126_9 : W11 → FV := fun v => W11.rec (motive := fun _ => FV) (fun v0 v1 v4 v5 v6 v17 v38 v45 v56 v59 v68 => v45) v
def u126_10 (C : CU) : CdU W11 := fun v S κ => W11.rec (motive := fun _ => RU) (fun v0 v1 v4 v5 v6 v17 v38 v45 v56 v59 v68 => 
 uCall C 64 [v0] S fun v69 S =>
 uFld none 2 v69 S fun v70 S =>
 uFad 0 v6 S fun v71 S =>
 uSt 1 v71 (.t true) S fun v72 S =>
 uFad 1 v6 S fun v73 S =>
 uSt 1 v73 v70 S fun v74 S =>
 κ .normal (.mk v0 v1 v4 v5 v6 v17 v38 v45 v56 v59 v68) S) v
def u126_11 (C : CU) : CdU W11 := fun v S κ => W11.rec (motive := fun _ => RU) (fun v0 v1 v4 v5 v6 v17 v38 v45 v56 v59 v68 => 
 uCall C 90 [v0] S fun v69 S =>
 κ .normal (.mk v0 v1 v4 v5 v6 v17 v38 v45 v56 v59 v68) S) v
def u126_12 (C : CU) : CdU W11 := fun v S κ => W11.rec (motive := fun _ => RU) (fun v0 v1 v4 v5 v6 v17 v38 v45 v56 v59 v68 => 
 uCall C 95 [v0, (.s [58])] S fun v69 S =>
 κ .normal (.mk v0 v1 v4 v5 v6 v17 v38 v45 v56 v59 v68) S) v
def u126_13 (C : CU) : CdU W11 := fun v S κ => W11.rec (motive := fun _ => RU) (fun v0 v1 v4 v5 v6 v17 v38 v45 v56 v59 v68 => 
 uCall C 89 [v0, (.s [114, 101, 113, 117, 105, 114, 101, 100])] S fun v69 S =>
 κ .normal (.mk v0 v1 v4 v5 v6 v17 v38 v45 v69 v59 v68) S) v
def u126_14 : W11 → FV := fun v => W11.rec (motive := fun _ => FV) (fun v0 v1 v4 v5 v6 v17 v38 v45 v56 v59 v68 => v56) v
def u126_15 (C : CU) : CdU W11 := fun v S κ => W11.rec (motive := fun _ => RU) (fun v0 v1 v4 v5 v6 v17 v38 v45 v56 v59 v68 => 
 uFad 2 v6 S fun v69 S =>
 uSt 1 v69 (.n 1) S fun v70 S =>
 κ .normal (.mk v0 v1 v4 v5 v6 v17 v38 v45 v56 v59 v68) S) v
def u126_16 (C : CU) : CdU W11 := fun v S κ => W11.rec (motive := fun _ => RU) (fun v0 v1 v4 v5 v6 v17 v38 v45 v56 v59 v68 => 
 uCall C 89 [v0, (.s [111, 112, 116, 105, 111, 110, 97, 108])] S fun v69 S =>
 κ .normal (.mk v0 v1 v4 v5 v6 v17 v38 v45 v56 v69 v68) S) v
def u126_17 : W11 → FV := fun v => W11.rec (motive := fun _ => FV) (fun v0 v1 v4 v5 v6 v17 v38 v45 v56 v59 v68 => v59) v
def u126_18 (C : CU) : CdU W11 := fun v S κ => W11.rec (motive := fun _ => RU) (fun v0 v1 v4 v5 v6 v17 v38 v45 v56 v59 v68 => 
 uFad 2 v6 S fun v69 S =>
 uSt 1 v69 (.n 2) S fun v70 S =>
 κ .normal (.mk v0 v1 v4 v5 v6 v17 v38 v45 v56 v59 v68) S) v
def u126_19 (C : CU) : CdU W11 := fun v S κ => W11.rec (motive := fun _ => RU) (fun v0 v1 v4 v5 v6 v17 v38 v45 v56 v59 v68 => 
 uCall C 93 [v0, (.n 1)] S fun v69 S =>
 uFad 3 v6 S fun v70 S =>
 uSt 1 v70 v69 S fun v71 S =>
 κ .normal (.mk v0 v1 v4 v5 v6 v17 v38 v45 v56 v59 v68) S) v
def u126_20 (C : CU) : CdU W11 := fun v S κ => W11.rec (motive := fun _ => RU) (fun v0 v1 v4 v5 v6 v17 v38 v45 v56 v59 v68 => 
 uCall C 94 [v0] S fun v69 S =>
 uFad 4 v6 S fun v70 S =>
 uSt 1 v70 v69 S fun v71 S =>
 κ .normal (.mk v0 v1 v4 v5 v6 v17 v38 v45 v56 v59 v68) S) v
def u126_21 (C : CU) : CdU W11 := fun v S κ => W11.rec (motive := fun _ => RU) (fun v0 v1 v4 v5 v6 v17 v38 v45 v56 v59 v68 => 
 uCall C 91 [v0, (.s [61])] S fun v69 S =>
 κ .normal (.mk v0 v1 v4 v5 v6 v17 v38 v45 v56 v59 v69) S) v
def u126_22 : W11 → FV := fun v => W11.rec (motive := fun _ => FV) (fun v0 v1 v4 v5 v6 v17 v38 v45 v56 v59 v68 => v68) v
def u126_23 (C : CU) : CdU W11 := fun v S κ => W11.rec (motive := fun _ => RU) (fun v0 v1 v4 v5 v6 v17 v38 v45 v56 v59 v68 => 
 uCall C 96 [v0, (.n 1)] S fun v69 S =>
 uFad 5 v6 S fun v70 S =>
 uSt 1 v70 (.t true) S fun v71 S =>
 uFad 6 v6 S fun v72 S =>
 uSt 5 v72 v69 S fun v73 S =>
 κ .normal (.mk v0 v1 v4 v5 v6 v17 v38 v45 v56 v59 v68) S) v
def u126_24 (C : CU) : CdU W11 := fun v S κ => W11.rec (motive := fun _ => RU) (fun v0 v1 v4 v5 v6 v17 v38 v45 v56 v59 v68 => 
 uCall C 100 [v0] S fun v69 S =>
 κ .normal (.mk v0 v1 v4 v5 v6 v17 v38 v45 v56 v59 v68) S) v
def u126_25 (C : CU) : CdU W11 := fun v S κ => W11.rec (motive := fun _ => RU) (fun v0 v1 v4 v5 v6 v17 v38 v45 v56 v59 v68 => 
 uLd (some 11) v6 S fun v69 S =>
 uLitF 62 11 [(.t false), (.n 0), (.n 0), (.s []), (.s []), (.t false), (.n 0), (.n 0), (.i .u64 0), (.s []), .nl] 1 [(0, 11, v69)] S fun v70 S =>
 uApp 62 11 128 v5 v70 S fun v71 S =>
 κ .normal (.mk v0 v1 v4 v71 v6 v17 v38 v45 v56 v59 v68) S) v
def u126_26 (C : CU) (n : Nat) : CdU W11 := seqU (seqU (u126_2 C) (condU u126_3 (skipU) (exitU 0))) (blockU 1 (seqU (seqU (u126_4 C) (condU u126_5 (seqU (u126_6 C) (exitU 0)) (skipU))) (seqU (u126_7 C) (seqU (seqU (u126_8 C) (condU u126_9 (seqU (u126_10 C) (seqU (u126_11 C) (u126_12 C))) (skipU))) (seqU (seqU (u126_13 C) (condU u126_14 (u126_15 C) (seqU (u126_16 C) (condU u126_17 (u126_18 C) (skipU))))) (seqU (u126_19 C) (seqU (u126_20 C) (seqU (seqU (u126_21 C) (condU u126_22 (u126_23 C) (skipU))) (seqU (u126_24 C) (u126_25 C))))))))))
def u126_27 (C : CU) : CdU W11 := fun v S κ => W11.rec (motive := fun _ => RU) (fun v0 v1 v4 v5 v6 v17 v38 v45 v56 v59 v68 => 
 uCall C 95 [v0, v1] S fun v69 S =>
 κ .normal (.mk v0 v1 v4 v5 v6 v17 v38 v45 v56 v59 v68) S) v
def u126_28 (C : CU) : CdU W11 := fun v S κ => W11.rec (motive := fun _ => RU) (fun v0 v1 v4 v5 v6 v17 v38 v45 v56 v59 v68 => 
 κ .normal (.mk v0 v1 v5 v5 v6 v17 v38 v45 v56 v59 v68) S) v
def u126r (v : W11) (S : FAW) : RU := W11.rec (motive := fun _ => RU) (fun v0 v1 v4 v5 v6 v17 v38 v45 v56 v59 v68 => .ok v4 S) v
def u126 : Fu := fun C n args S => (seqU (u126_0 C) (seqU (u126_1 C) (seqU (blockU 0 (loopU n (u126_26 C n))) (seqU (u126_27 C) (seqU (u126_28 C) (retU))))) : CdU W11) (.mk (argU args 0) (argU args 1) (argU args 4) (argU args 5) (argU args 6) (argU args 17) (argU args 38) (argU args 45) (argU args 56) (argU args 59) (argU args 68)) S fun o v S => exU o (u126r v S) (fun _ => .no) (u126r v S)
/-! (*assayer/assayerref5.parser).typed -/
def u127_0 (C : CU) : CdU W3 := fun v S κ => W3.rec (motive := fun _ => RU) (fun v0 v2 v3 => 
 κ .normal (.mk v0 (.t false) v3) S) v
def u127_1 (C : CU) : CdU W3 := fun v S κ => W3.rec (motive := fun _ => RU) (fun v0 v2 v3 => 
 uCall C 64 [v0] S fun v4 S =>
 uNewF 137 5 [(.n 0), (.s []), (.n 0), (.i .u64 0), (.n 0)] S fun v5 S =>
 uSt 5 v5 v4 S fun v6 S =>
 κ .normal (.mk v0 v2 v5) S) v
def u127_2 (C : CU) : CdU W3 := fun v S κ => W3.rec (motive := fun _ => RU) (fun v0 v2 v3 => 
 uFad 0 v3 S fun v4 S =>
 uLd none v4 S fun v5 S =>
 uEq false .eql v5 (.n 1) S fun v6 S =>
 eT v6 fun b => cn b
 (uFad 1 v3 S fun v7 S =>
 uLd none v7 S fun v8 S =>
 uCall C 61 [v8] S fun v9 S =>
 uEq true .neq v9 (.n 0) S fun v10 S =>
 eT v10 fun b => cn b
 (κ .normal (.mk v0 (.t true) v3) S)
 (uFad 1 v3 S fun v11 S =>
 uLd none v11 S fun v12 S =>
 uEq false .eql v12 (.s [98, 121, 116, 101]) S fun v13 S =>
 eT v13 fun b => cn b
 (κ .normal (.mk v0 (.t true) v3) S)
 (uFad 1 v3 S fun v14 S =>
 uLd none v14 S fun v15 S =>
 uCall C 124 [v15] S fun v16 S =>
 κ .normal (.mk v0 v16 v3) S)))
 (κ .normal (.mk v0 (.t false) v3) S)) v
def u127r (v : W3) (S : FAW) : RU := W3.rec (motive := fun _ => RU) (fun v0 v2 v3 => .ok v2 S) v
def u127 : Fu := fun C n args S => (seqU (u127_0 C) (seqU (u127_1 C) (seqU (u127_2 C) (retU))) : CdU W3) (.mk (argU args 0) (argU args 2) (argU args 3)) S fun o v S => exU o (u127r v S) (fun _ => .no) (u127r v S)
/-! assayer/kind.letter -/
def u131_0 (C : CU) : CdU W2 := fun v S κ => W2.rec (motive := fun _ => RU) (fun v0 v2 => 
 κ .normal (.mk v0 (.t false)) S) v
def u131_1 (C : CU) : CdU W2 := fun v S κ => W2.rec (motive := fun _ => RU) (fun v0 v2 => 
 uEq false .eql v0 (.b 95) S fun v3 S =>
 eT v3 fun b => cn b
 (κ .normal (.mk v0 (.t true)) S)
 (uCmp (fun a b => Nat.ble b a) .geq v0 (.b 97) S fun v4 S =>
 eT v4 fun b => cn b
 (uCmp Nat.ble .leq v0 (.b 122) S fun v5 S =>
 eT v5 fun b => cn b
 (κ .normal (.mk v0 (.t true)) S)
 (uCmp (fun a b => Nat.ble b a) .geq v0 (.b 65) S fun v6 S =>
 eT v6 fun b => cn b
 (uCmp Nat.ble .leq v0 (.b 90) S fun v7 S =>
 κ .normal (.mk v0 v7) S)
 (κ .normal (.mk v0 (.t false)) S)))
 (uCmp (fun a b => Nat.ble b a) .geq v0 (.b 65) S fun v5 S =>
 eT v5 fun b => cn b
 (uCmp Nat.ble .leq v0 (.b 90) S fun v6 S =>
 κ .normal (.mk v0 v6) S)
 (κ .normal (.mk v0 (.t false)) S)))) v
def u131r (v : W2) (S : FAW) : RU := W2.rec (motive := fun _ => RU) (fun v0 v2 => .ok v2 S) v
def u131 : Fu := fun C n args S => (seqU (u131_0 C) (seqU (u131_1 C) (retU)) : CdU W2) (.mk (argU args 0) (argU args 2)) S fun o v S => exU o (u131r v S) (fun _ => .no) (u131r v S)
/-! strings.genSplit -/
def u132_0 (C : CU) : CdU W13 := fun v S κ => W13.rec (motive := fun _ => RU) (fun v0 v1 v2 v3 v8 v9 v10 v11 v13 v15 v20 v36 v41 => 
 κ .normal (.mk v0 v1 v2 v3 .nl v9 v10 v11 v13 v15 v20 v36 v41) S) v
def u132_1 (C : CU) : CdU W13 := fun v S κ => W13.rec (motive := fun _ => RU) (fun v0 v1 v2 v3 v8 v9 v10 v11 v13 v15 v20 v36 v41 => 
 uEq false .eql v3 (.n 0) S fun v42 S =>
 κ .normal (.mk v0 v1 v2 v3 v8 v9 v10 v11 v42 v15 v20 v36 v41) S) v
def u132_2 : W13 → FV := fun v => W13.rec (motive := fun _ => FV) (fun v0 v1 v2 v3 v8 v9 v10 v11 v13 v15 v20 v36 v41 => v13) v
def u132_3 (C : CU) : CdU W13 := fun v S κ => W13.rec (motive := fun _ => RU) (fun v0 v1 v2 v3 v8 v9 v10 v11 v13 v15 v20 v36 v41 => 
 κ .normal (.mk v0 v1 v2 v3 .nl v9 v10 v11 v13 v15 v20 v36 v41) S) v
def u132_4 (C : CU) : CdU W13 := fun v S κ => W13.rec (motive := fun _ => RU) (fun v0 v1 v2 v3 v8 v9 v10 v11 v13 v15 v20 v36 v41 => 
 uEq false .eql v1 (.s []) S fun v42 S =>
 κ .normal (.mk v0 v1 v2 v3 v8 v9 v10 v11 v13 v42 v20 v36 v41) S) v
def u132_5 : W13 → FV := fun v => W13.rec (motive := fun _ => FV) (fun v0 v1 v2 v3 v8 v9 v10 v11 v13 v15 v20 v36 v41 => v15) v
def u132_6 (C : CU) : CdU W13 := fun v S κ => W13.rec (motive := fun _ => RU) (fun v0 v1 v2 v3 v8 v9 v10 v11 v13 v15 v20 v36 v41 => 
 uCall C 154 [v0, v3] S fun v42 S =>
 κ .normal (.mk v0 v1 v2 v3 v42 v9 v10 v11 v13 v15 v20 v36 v41) S) v
def u132_7 (C : CU) : CdU W13 := fun v S κ => W13.rec (motive := fun _ => RU) (fun v0 v1 v2 v3 v8 v9 v10 v11 v13 v15 v20 v36 v41 => 
 uCmp ltN .lss v3 (.n 0) S fun v42 S =>
 κ .normal (.mk v0 v1 v2 v3 v8 v9 v10 v11 v13 v15 v42 v36 v41) S) v
def u132_8 : W13 → FV := fun v => W13.rec (motive := fun _ => FV) (fun v0 v1 v2 v3 v8 v9 v10 v11 v13 v15 v20 v36 v41 => v20) v
def u132_9 (C : CU) : CdU W13 := fun v S κ => W13.rec (motive := fun _ => RU) (fun v0 v1 v2 v3 v8 v9 v10 v11 v13 v15 v20 v36 v41 => 
 uCall C 155 [v0, v1] S fun v42 S =>
 uAdd v42 (.n 1) S fun v43 S =>
 κ .normal (.mk v0 v1 v2 v43 v8 v9 v10 v11 v13 v15 v20 v36 v41) S) v
def u132_10 (C : CU) : CdU W13 := fun v S κ => W13.rec (motive := fun _ => RU) (fun v0 v1 v2 v3 v8 v9 v10 v11 v13 v15 v20 v36 v41 => 
 uLen true v0 S fun v42 S =>
 uAdd v42 (.n 1) S fun v43 S =>
 uMM false [v3, v43] S fun v44 S =>
 κ .normal (.mk v0 v1 v2 v44 v8 v9 v10 v11 v13 v15 v20 v36 v41) S) v
def u132_11 (C : CU) : CdU W13 := fun v S κ => W13.rec (motive := fun _ => RU) (fun v0 v1 v2 v3 v8 v9 v10 v11 v13 v15 v20 v36 v41 => 
 uMksF 9 1 16 [(.s [])] v3 v3 S fun v42 S =>
 κ .normal (.mk v0 v1 v2 v3 v8 v42 v10 v11 v13 v15 v20 v36 v41) S) v
def u132_12 (C : CU) : CdU W13 := fun v S κ => W13.rec (motive := fun _ => RU) (fun v0 v1 v2 v3 v8 v9 v10 v11 v13 v15 v20 v36 v41 => 
 uSub v3 (.n 1) S fun v42 S =>
 κ .normal (.mk v0 v1 v2 v42 v8 v9 v10 v11 v13 v15 v20 v36 v41) S) v
def u132_13 (C : CU) : CdU W13 := fun v S κ => W13.rec (motive := fun _ => RU) (fun v0 v1 v2 v3 v8 v9 v10 v11 v13 v15 v20 v36 v41 => 
 κ .normal (.mk v0 v1 v2 v3 v8 v9 (.n 0) v11 v13 v15 v20 v36 v41) S) v
def u132_14 (C : CU) : CdU W13 := fun v S κ => W13.rec (motive := fun _ => RU) (fun v0 v1 v2 v3 v8 v9 v10 v11 v13 v15 v20 v36 v41 => 
 uCmp ltN .lss v10 v3 S fun v42 S =>
 κ .normal (.mk v0 v1 v2 v3 v8 v9 v10 v11 v13 v15 v20 v42 v41) S) v
def u132_15 : W13 → FV := fun v => W13.rec (motive := fun _ => FV) (fun v0 v1 v2 v3 v8 v9 v10 v11 v13 v15 v20 v36 v41 => v36) v
def u132_16 (C : CU) : CdU W13 := fun v S κ => W13.rec (motive := fun _ => RU) (fun v0 v1 v2 v3 v8 v9 v10 v11 v13 v15 v20 v36 v41 => 
 uCall C 156 [v0, v1] S fun v42 S =>
 κ .normal (.mk v0 v1 v2 v3 v8 v9 v10 v42 v13 v15 v20 v36 v41) S) v
def u132_17 (C : CU) : CdU W13 := fun v S κ => W13.rec (motive := fun _ => RU) (fun v0 v1 v2 v3 v8 v9 v10 v11 v13 v15 v20 v36 v41 => 
 uCmp ltN .lss v11 (.n 0) S fun v42 S =>
 κ .normal (.mk v0 v1 v2 v3 v8 v9 v10 v11 v13 v15 v20 v36 v42) S) v
def u132_18 : W13 → FV := fun v => W13.rec (motive := fun _ => FV) (fun v0 v1 v2 v3 v8 v9 v10 v11 v13 v15 v20 v36 v41 => v41) v
def u132_19 (C : CU) : CdU W13 := fun v S κ => W13.rec (motive := fun _ => RU) (fun v0 v1 v2 v3 v8 v9 v10 v11 v13 v15 v20 v36 v41 => 
 uAdd v11 v2 S fun v42 S =>
 uSlS v0 none (some v42) S fun v43 S =>
 uIad 1 v9 v10 S fun v44 S =>
 uSt 1 v44 v43 S fun v45 S =>
 κ .normal (.mk v0 v1 v2 v3 v8 v9 v10 v11 v13 v15 v20 v36 v41) S) v
def u132_20 (C : CU) : CdU W13 := fun v S κ => W13.rec (motive := fun _ => RU) (fun v0 v1 v2 v3 v8 v9 v10 v11 v13 v15 v20 v36 v41 => 
 uLen true v1 S fun v42 S =>
 uAdd v11 v42 S fun v43 S =>
 uSlS v0 (some v43) none S fun v44 S =>
 κ .normal (.mk v44 v1 v2 v3 v8 v9 v10 v11 v13 v15 v20 v36 v41) S) v
def u132_21 (C : CU) : CdU W13 := fun v S κ => W13.rec (motive := fun _ => RU) (fun v0 v1 v2 v3 v8 v9 v10 v11 v13 v15 v20 v36 v41 => 
 uAdd v10 (.n 1) S fun v42 S =>
 κ .normal (.mk v0 v1 v2 v3 v8 v9 v42 v11 v13 v15 v20 v36 v41) S) v
def u132_22 (C : CU) (n : Nat) : CdU W13 := seqU (seqU (u132_14 C) (condU u132_15 (skipU) (exitU 0))) (blockU 1 (seqU (u132_16 C) (seqU (seqU (u132_17 C) (condU u132_18 (exitU 0) (skipU))) (seqU (u132_19 C) (seqU (u132_20 C) (u132_21 C))))))
def u132_23 (C : CU) : CdU W13 := fun v S κ => W13.rec (motive := fun _ => RU) (fun v0 v1 v2 v3 v8 v9 v10 v11 v13 v15 v20 v36 v41 => 
 uIad 1 v9 v10 S fun v42 S =>
 uSt 1 v42 v0 S fun v43 S =>
 κ .normal (.mk v0 v1 v2 v3 v8 v9 v10 v11 v13 v15 v20 v36 v41) S) v
def u132_24 (C : CU) : CdU W13 := fun v S κ => W13.rec (motive := fun _ => RU) (fun v0 v1 v2 v3 v8 v9 v10 v11 v13 v15 v20 v36 v41 => 
 uAdd v10 (.n 1) S fun v42 S =>
 uSlV 1 v9 none (some v42) none S fun v43 S =>
 κ .normal (.mk v0 v1 v2 v3 v43 v9 v10 v11 v13 v15 v20 v36 v41) S) v
def u132r (v : W13) (S : FAW) : RU := W13.rec (motive := fun _ => RU) (fun v0 v1 v2 v3 v8 v9 v10 v11 v13 v15 v20 v36 v41 => .ok v8 S) v
def u132 : Fu := fun C n args S => (seqU (u132_0 C) (seqU (seqU (u132_1 C) (condU u132_2 (seqU (u132_3 C) (retU)) (skipU))) (seqU (seqU (u132_4 C) (condU u132_5 (seqU (u132_6 C) (retU)) (skipU))) (seqU (seqU (u132_7 C) (condU u132_8 (u132_9 C) (skipU))) (seqU (u132_10 C) (seqU (u132_11 C) (seqU (u132_12 C) (seqU (u132_13 C) (seqU (blockU 0 (loopU n (u132_22 C n))) (seqU (u132_23 C) (seqU (u132_24 C) (retU))))))))))) : CdU W13) (.mk (argU args 0) (argU args 1) (argU args 2) (argU args 3) (argU args 8) (argU args 9) (argU args 10) (argU args 11) (argU args 13) (argU args 15) (argU args 20) (argU args 36) (argU args 41)) S fun o v S => exU o (u132r v S) (fun _ => .no) (u132r v S)
/-! assayer/scope.sees -/
def u133_0 (C : CU) : CdU W7 := fun v S κ => W7.rec (motive := fun _ => RU) (fun v0 v1 v2 v3 v6 v7 v8 => 
 uBox 37 2 v0 S fun v9 S =>
 κ .normal (.mk v0 v1 v2 v9 (.t false) v7 v8) S) v
def u133_1 (C : CU) : CdU W7 := fun v S κ => W7.rec (motive := fun _ => RU) (fun v0 v1 v2 v3 v6 v7 v8 => 
 uLd (some 2) v3 S fun v9 S =>
 uCall C 32 [v9, v1] S fun v10 S =>
 uExt 0 v10 S fun v11 S =>
 uExt 1 v10 S fun v12 S =>
 uNewF 51 3 [.nl, .nl, .nl] S fun v13 S =>
 uSt 3 v13 v11 S fun v14 S =>
 κ .normal (.mk v0 v1 v2 v3 v6 v13 v12) S) v
def u133_2 (C : CU) : CdU W7 := fun v S κ => W7.rec (motive := fun _ => RU) (fun v0 v1 v2 v3 v6 v7 v8 => 
 eT v8 fun b => cn b
 (uEq false .eql v2 v1 S fun v9 S =>
 eT v9 fun b => cn b
 (κ .normal (.mk v0 v1 v2 v3 (.t true) v7 v8) S)
 (uFad 0 v7 S fun v10 S =>
 uLd none v10 S fun v11 S =>
 uCall C 157 [v11, v2] S fun v12 S =>
 κ .normal (.mk v0 v1 v2 v3 v12 v7 v8) S))
 (κ .normal (.mk v0 v1 v2 v3 (.t false) v7 v8) S)) v
def u133r (v : W7) (S : FAW) : RU := W7.rec (motive := fun _ => RU) (fun v0 v1 v2 v3 v6 v7 v8 => .ok v6 S) v
def u133 : Fu := fun C n args S => (seqU (u133_0 C) (seqU (u133_1 C) (seqU (u133_2 C) (retU))) : CdU W7) (.mk (argU args 0) (argU args 1) (argU args 2) (argU args 3) (argU args 6) (argU args 7) (argU args 8)) S fun o v S => exU o (u133r v S) (fun _ => .no) (u133r v S)
/-! assayer/scope.of -/
def u134_0 (C : CU) : CdU W14 := fun v S κ => W14.rec (motive := fun _ => RU) (fun v0 v1 v2 v4 v5 v6 v9 v10 v12 v21 v22 v23 v24 v38 => 
 uBox 37 2 v0 S fun v39 S =>
 κ .normal (.mk v0 v1 v39 .nm v5 v6 v9 v10 v12 v21 v22 v23 v24 v38) S) v
def u134_1 (C : CU) : CdU W14 := fun v S κ => W14.rec (motive := fun _ => RU) (fun v0 v1 v2 v4 v5 v6 v9 v10 v12 v21 v22 v23 v24 v38 => 
 uMkm none S fun v39 S =>
 κ .normal (.mk v0 v1 v2 v4 v39 v6 v9 v10 v12 v21 v22 v23 v24 v38) S) v
def u134_2 (C : CU) : CdU W14 := fun v S κ => W14.rec (motive := fun _ => RU) (fun v0 v1 v2 v4 v5 v6 v9 v10 v12 v21 v22 v23 v24 v38 => 
 uLd (some 2) v2 S fun v39 S =>
 uCall C 32 [v39, v1] S fun v40 S =>
 uExt 0 v40 S fun v41 S =>
 uExt 1 v40 S fun v42 S =>
 uNewF 51 3 [.nl, .nl, .nl] S fun v43 S =>
 uSt 3 v43 v41 S fun v44 S =>
 κ .normal (.mk v0 v1 v2 v4 v5 v43 v9 v10 v12 v21 v22 v23 v24 v38) S) v
def u134_3 (C : CU) : CdU W14 := fun v S κ => W14.rec (motive := fun _ => RU) (fun v0 v1 v2 v4 v5 v6 v9 v10 v12 v21 v22 v23 v24 v38 => 
 uFad 2 v6 S fun v39 S =>
 uLd none v39 S fun v40 S =>
 uLen false v40 S fun v41 S =>
 κ .normal (.mk v0 v1 v2 v4 v5 v6 v9 v10 v12 v40 v41 (.n 0) v24 v38) S) v
def u134_4 (C : CU) : CdU W14 := fun v S κ => W14.rec (motive := fun _ => RU) (fun v0 v1 v2 v4 v5 v6 v9 v10 v12 v21 v22 v23 v24 v38 => 
 uCmp ltN .lss v23 v22 S fun v39 S =>
 κ .normal (.mk v0 v1 v2 v4 v5 v6 v9 v10 v12 v21 v22 v23 v39 v38) S) v
def u134_5 : W14 → FV := fun v => W14.rec (motive := fun _ => FV) (fun v0 v1 v2 v4 v5 v6 v9 v10 v12 v21 v22 v23 v24 v38 => v24) v
def u134_6 (C : CU) : CdU W14 := fun v S κ => W14.rec (motive := fun _ => RU) (fun v0 v1 v2 v4 v5 v6 v9 v10 v12 v21 v22 v23 v24 v38 => 
 uIad 12 v21 v23 S fun v39 S =>
 uLd (some 12) v39 S fun v40 S =>
 uNewF 60 12 [(.n 0), (.s []), (.s []), (.n 0), (.n 0), (.i .u64 0), (.s []), .nl, .nl, .nl, (.s []), .nl] S fun v41 S =>
 uSt 12 v41 v40 S fun v42 S =>
 κ .normal (.mk v0 v1 v2 v4 v5 v6 v41 v10 v12 v21 v22 v23 v24 v38) S) v
def u134_7 (C : CU) : CdU W14 := fun v S κ => W14.rec (motive := fun _ => RU) (fun v0 v1 v2 v4 v5 v6 v9 v10 v12 v21 v22 v23 v24 v38 => 
 uFad 1 v9 S fun v39 S =>
 uLd none v39 S fun v40 S =>
 uBuildF [(.s []), (.s [])] [(0, 1, v1), (1, 1, v40)] S fun v41 S =>
 uNewF 178 2 [(.s []), (.s [])] S fun v42 S =>
 uSt 2 v42 v41 S fun v43 S =>
 κ .normal (.mk v0 v1 v2 v4 v5 v6 v9 v42 v12 v21 v22 v23 v24 v38) S) v
def u134_8 (C : CU) : CdU W14 := fun v S κ => W14.rec (motive := fun _ => RU) (fun v0 v1 v2 v4 v5 v6 v9 v10 v12 v21 v22 v23 v24 v38 => 
 uLd (some 2) v10 S fun v39 S =>
 uMlkF (.agg [.str, .str]) (.a [(.n 0), (.s []), (.s []), (.n 0), (.n 0), (.i .u64 0), (.s []), .nl, .nl, .nl, (.s []), .nl]) true v5 v39 S fun v40 S =>
 uExt 0 v40 S fun v41 S =>
 uExt 1 v40 S fun v42 S =>
 uNewF 60 12 [(.n 0), (.s []), (.s []), (.n 0), (.n 0), (.i .u64 0), (.s []), .nl, .nl, .nl, (.s []), .nl] S fun v43 S =>
 uSt 12 v43 v41 S fun v44 S =>
 κ .normal (.mk v0 v1 v2 v4 v5 v6 v9 v10 v42 v21 v22 v23 v24 v38) S) v
def u134_9 (C : CU) : CdU W14 := fun v S κ => W14.rec (motive := fun _ => RU) (fun v0 v1 v2 v4 v5 v6 v9 v10 v12 v21 v22 v23 v24 v38 => 
 uNot v12 S fun v39 S =>
 κ .normal (.mk v0 v1 v2 v4 v5 v6 v9 v10 v12 v21 v22 v23 v24 v39) S) v
def u134_10 : W14 → FV := fun v => W14.rec (motive := fun _ => FV) (fun v0 v1 v2 v4 v5 v6 v9 v10 v12 v21 v22 v23 v24 v38 => v38) v
def u134_11 (C : CU) : CdU W14 := fun v S κ => W14.rec (motive := fun _ => RU) (fun v0 v1 v2 v4 v5 v6 v9 v10 v12 v21 v22 v23 v24 v38 => 
 uLd (some 2) v10 S fun v39 S =>
 uLd (some 12) v9 S fun v40 S =>
 uMup (.agg [.str, .str]) v5 v39 v40 S fun v41 S =>
 κ .normal (.mk v0 v1 v2 v4 v5 v6 v9 v10 v12 v21 v22 v23 v24 v38) S) v
def u134_12 (C : CU) : CdU W14 := fun v S κ => W14.rec (motive := fun _ => RU) (fun v0 v1 v2 v4 v5 v6 v9 v10 v12 v21 v22 v23 v24 v38 => 
 uAdd v23 (.n 1) S fun v39 S =>
 κ .normal (.mk v0 v1 v2 v4 v5 v6 v9 v10 v12 v21 v22 v39 v24 v38) S) v
def u134_13 (C : CU) (n : Nat) : CdU W14 := seqU (u134_4 C) (seqU (condU u134_5 (skipU) (exitU 0)) (seqU (blockU 1 (seqU (u134_6 C) (seqU (u134_7 C) (seqU (u134_8 C) (seqU (u134_9 C) (condU u134_10 (u134_11 C) (skipU))))))) (u134_12 C)))
def u134_14 (C : CU) : CdU W14 := fun v S κ => W14.rec (motive := fun _ => RU) (fun v0 v1 v2 v4 v5 v6 v9 v10 v12 v21 v22 v23 v24 v38 => 
 κ .normal (.mk v0 v1 v2 v5 v5 v6 v9 v10 v12 v21 v22 v23 v24 v38) S) v
def u134r (v : W14) (S : FAW) : RU := W14.rec (motive := fun _ => RU) (fun v0 v1 v2 v4 v5 v6 v9 v10 v12 v21 v22 v23 v24 v38 => .ok v4 S) v
def u134 : Fu := fun C n args S => (seqU (u134_0 C) (seqU (u134_1 C) (seqU (u134_2 C) (seqU (seqU (u134_3 C) (blockU 0 (loopU n (u134_13 C n)))) (seqU (u134_14 C) (retU))))) : CdU W14) (.mk (argU args 0) (argU args 1) (argU args 2) (argU args 4) (argU args 5) (argU args 6) (argU args 9) (argU args 10) (argU args 12) (argU args 21) (argU args 22) (argU args 23) (argU args 24) (argU args 38)) S fun o v S => exU o (u134r v S) (fun _ => .no) (u134r v S)
/-! internal/bytealg.hashStr[string] -/
def u135_0 (C : CU) : CdU W11 := fun v S κ => W11.rec (motive := fun _ => RU) (fun v0 v2 v3 v4 v5 v6 v7 v8 v12 v25 v30 => 
 κ .normal (.mk v0 (.i .u32 0) (.i .u32 0) v4 v5 v6 v7 v8 v12 v25 v30) S) v
def u135_1 (C : CU) : CdU W11 := fun v S κ => W11.rec (motive := fun _ => RU) (fun v0 v2 v3 v4 v5 v6 v7 v8 v12 v25 v30 => 
 κ .normal (.mk v0 v2 v3 (.i .u32 0) v5 v6 v7 v8 v12 v25 v30) S) v
def u135_2 (C : CU) : CdU W11 := fun v S κ => W11.rec (motive := fun _ => RU) (fun v0 v2 v3 v4 v5 v6 v7 v8 v12 v25 v30 => 
 κ .normal (.mk v0 v2 v3 v4 (.n 0) v6 v7 v8 v12 v25 v30) S) v
def u135_3 (C : CU) : CdU W11 := fun v S κ => W11.rec (motive := fun _ => RU) (fun v0 v2 v3 v4 v5 v6 v7 v8 v12 v25 v30 => 
 uLen true v0 S fun v31 S =>
 uCmp ltN .lss v5 v31 S fun v32 S =>
 κ .normal (.mk v0 v2 v3 v4 v5 v6 v7 v8 v32 v25 v30) S) v
def u135_4 : W11 → FV := fun v => W11.rec (motive := fun _ => FV) (fun v0 v2 v3 v4 v5 v6 v7 v8 v12 v25 v30 => v12) v
def u135_5 (C : CU) : CdU W11 := fun v S κ => W11.rec (motive := fun _ => RU) (fun v0 v2 v3 v4 v5 v6 v7 v8 v12 v25 v30 => 
 uMul v4 (.i .u32 16777619) S fun v31 S =>
 uIdxS v0 v5 S fun v32 S =>
 uCvI .u32 v32 S fun v33 S =>
 uAdd v31 v33 S fun v34 S =>
 κ .normal (.mk v0 v2 v3 v34 v5 v6 v7 v8 v12 v25 v30) S) v
def u135_6 (C : CU) : CdU W11 := fun v S κ => W11.rec (motive := fun _ => RU) (fun v0 v2 v3 v4 v5 v6 v7 v8 v12 v25 v30 => 
 uAdd v5 (.n 1) S fun v31 S =>
 κ .normal (.mk v0 v2 v3 v4 v31 v6 v7 v8 v12 v25 v30) S) v
def u135_7 (C : CU) (n : Nat) : CdU W11 := seqU (seqU (u135_3 C) (condU u135_4 (skipU) (exitU 0))) (seqU (blockU 1 (u135_5 C)) (u135_6 C))
def u135_8 (C : CU) : CdU W11 := fun v S κ => W11.rec (motive := fun _ => RU) (fun v0 v2 v3 v4 v5 v6 v7 v8 v12 v25 v30 => 
 κ .normal (.mk v0 v2 v3 v4 v5 (.i .u32 1) (.i .u32 16777619) v8 v12 v25 v30) S) v
def u135_9 (C : CU) : CdU W11 := fun v S κ => W11.rec (motive := fun _ => RU) (fun v0 v2 v3 v4 v5 v6 v7 v8 v12 v25 v30 => 
 uLen true v0 S fun v31 S =>
 κ .normal (.mk v0 v2 v3 v4 v5 v6 v7 v31 v12 v25 v30) S) v
def u135_10 (C : CU) : CdU W11 := fun v S κ => W11.rec (motive := fun _ => RU) (fun v0 v2 v3 v4 v5 v6 v7 v8 v12 v25 v30 => 
 uCmp (fun a b => ltN b a) .gtr v8 (.n 0) S fun v31 S =>
 κ .normal (.mk v0 v2 v3 v4 v5 v6 v7 v8 v12 v31 v30) S) v
def u135_11 : W11 → FV := fun v => W11.rec (motive := fun _ => FV) (fun v0 v2 v3 v4 v5 v6 v7 v8 v12 v25 v30 => v25) v
def u135_12 (C : CU) : CdU W11 := fun v S κ => W11.rec (motive := fun _ => RU) (fun v0 v2 v3 v4 v5 v6 v7 v8 v12 v25 v30 => 
 uSlow .and v8 (.n 1) S fun v31 S =>
 uEq true .neq v31 (.n 0) S fun v32 S =>
 κ .normal (.mk v0 v2 v3 v4 v5 v6 v7 v8 v12 v25 v32) S) v
def u135_13 : W11 → FV := fun v => W11.rec (motive := fun _ => FV) (fun v0 v2 v3 v4 v5 v6 v7 v8 v12 v25 v30 => v30) v
def u135_14 (C : CU) : CdU W11 := fun v S κ => W11.rec (motive := fun _ => RU) (fun v0 v2 v3 v4 v5 v6 v7 v8 v12 v25 v30 => 
 uMul v6 v7 S fun v31 S =>
 κ .normal (.mk v0 v2 v3 v4 v5 v31 v7 v8 v12 v25 v30) S) v
def u135_15 (C : CU) : CdU W11 := fun v S κ => W11.rec (motive := fun _ => RU) (fun v0 v2 v3 v4 v5 v6 v7 v8 v12 v25 v30 => 
 uMul v7 v7 S fun v31 S =>
 κ .normal (.mk v0 v2 v3 v4 v5 v6 v31 v8 v12 v25 v30) S) v
def u135_16 (C : CU) : CdU W11 := fun v S κ => W11.rec (motive := fun _ => RU) (fun v0 v2 v3 v4 v5 v6 v7 v8 v12 v25 v30 => 
 uSlow .shr v8 (.i .u64 1) S fun v31 S =>
 κ .normal (.mk v0 v2 v3 v4 v5 v6 v7 v31 v12 v25 v30) S) v
def u135_17 (C : CU) (n : Nat) : CdU W11 := seqU (seqU (u135_10 C) (condU u135_11 (skipU) (exitU 2))) (seqU (blockU 3 (seqU (seqU (u135_12 C) (condU u135_13 (u135_14 C) (skipU))) (u135_15 C))) (u135_16 C))
def u135_18 (C : CU) : CdU W11 := fun v S κ => W11.rec (motive := fun _ => RU) (fun v0 v2 v3 v4 v5 v6 v7 v8 v12 v25 v30 => 
 κ .normal (.mk v0 v4 v6 v4 v5 v6 v7 v8 v12 v25 v30) S) v
def u135r (v : W11) (S : FAW) : RU := W11.rec (motive := fun _ => RU) (fun v0 v2 v3 v4 v5 v6 v7 v8 v12 v25 v30 => .ok (.u [v2, v3]) S) v
def u135 : Fu := fun C n args S => (seqU (u135_0 C) (seqU (u135_1 C) (seqU (seqU (u135_2 C) (blockU 0 (loopU n (u135_7 C n)))) (seqU (u135_8 C) (seqU (seqU (u135_9 C) (blockU 2 (loopU n (u135_17 C n)))) (seqU (u135_18 C) (retU)))))) : CdU W11) (.mk (argU args 0) (argU args 2) (argU args 3) (argU args 4) (argU args 5) (argU args 6) (argU args 7) (argU args 8) (argU args 12) (argU args 25) (argU args 30)) S fun o v S => exU o (u135r v S) (fun _ => .no) (u135r v S)
/-! assayer/assayerref5.hex -/
def u136_0 (C : CU) : CdU W5 := fun v S κ => W5.rec (motive := fun _ => RU) (fun v0 v2 v3 v9 v20 => 
 κ .normal (.mk v0 (.n 0) v3 v9 v20) S) v
def u136_1 (C : CU) : CdU W5 := fun v S κ => W5.rec (motive := fun _ => RU) (fun v0 v2 v3 v9 v20 => 
 uCall C 41 [v0] S fun v21 S =>
 κ .normal (.mk v0 v2 v21 v9 v20) S) v
def u136_2 : W5 → FV := fun v => W5.rec (motive := fun _ => FV) (fun v0 v2 v3 v9 v20 => v3) v
def u136_3 (C : CU) : CdU W5 := fun v S κ => W5.rec (motive := fun _ => RU) (fun v0 v2 v3 v9 v20 => 
 uSub v0 (.b 48) S fun v21 S =>
 uCvI .i64 v21 S fun v22 S =>
 κ .normal (.mk v0 v22 v3 v9 v20) S) v
def u136_4 (C : CU) : CdU W5 := fun v S κ => W5.rec (motive := fun _ => RU) (fun v0 v2 v3 v9 v20 => 
 uCmp (fun a b => Nat.ble b a) .geq v0 (.b 97) S fun v21 S =>
 eT v21 fun b => cn b
 (uCmp Nat.ble .leq v0 (.b 102) S fun v22 S =>
 κ .normal (.mk v0 v2 v3 v22 v20) S)
 (κ .normal (.mk v0 v2 v3 (.t false) v20) S)) v
def u136_5 : W5 → FV := fun v => W5.rec (motive := fun _ => FV) (fun v0 v2 v3 v9 v20 => v9) v
def u136_6 (C : CU) : CdU W5 := fun v S κ => W5.rec (motive := fun _ => RU) (fun v0 v2 v3 v9 v20 => 
 uSub v0 (.b 97) S fun v21 S =>
 uCvI .i64 v21 S fun v22 S =>
 uAdd v22 (.n 10) S fun v23 S =>
 κ .normal (.mk v0 v23 v3 v9 v20) S) v
def u136_7 (C : CU) : CdU W5 := fun v S κ => W5.rec (motive := fun _ => RU) (fun v0 v2 v3 v9 v20 => 
 uCmp (fun a b => Nat.ble b a) .geq v0 (.b 65) S fun v21 S =>
 eT v21 fun b => cn b
 (uCmp Nat.ble .leq v0 (.b 70) S fun v22 S =>
 κ .normal (.mk v0 v2 v3 v9 v22) S)
 (κ .normal (.mk v0 v2 v3 v9 (.t false)) S)) v
def u136_8 : W5 → FV := fun v => W5.rec (motive := fun _ => FV) (fun v0 v2 v3 v9 v20 => v20) v
def u136_9 (C : CU) : CdU W5 := fun v S κ => W5.rec (motive := fun _ => RU) (fun v0 v2 v3 v9 v20 => 
 uSub v0 (.b 65) S fun v21 S =>
 uCvI .i64 v21 S fun v22 S =>
 uAdd v22 (.n 10) S fun v23 S =>
 κ .normal (.mk v0 v23 v3 v9 v20) S) v
def u136_10 (C : CU) : CdU W5 := fun v S κ => W5.rec (motive := fun _ => RU) (fun v0 v2 v3 v9 v20 => 
 κ .normal (.mk v0 (.i .i64 (-1)) v3 v9 v20) S) v
def u136r (v : W5) (S : FAW) : RU := W5.rec (motive := fun _ => RU) (fun v0 v2 v3 v9 v20 => .ok v2 S) v
def u136 : Fu := fun C n args S => (seqU (u136_0 C) (seqU (blockU 0 (seqU (u136_1 C) (condU u136_2 (seqU (u136_3 C) (retU)) (seqU (u136_4 C) (condU u136_5 (seqU (u136_6 C) (retU)) (seqU (u136_7 C) (condU u136_8 (seqU (u136_9 C) (retU)) (skipU)))))))) (seqU (u136_10 C) (retU))) : CdU W5) (.mk (argU args 0) (argU args 2) (argU args 3) (argU args 9) (argU args 20)) S fun o v S => exU o (u136r v S) (fun _ => .no) (u136r v S)
/-! (*assayer/assayerref5.lexer).sixteen -/
def u137_0 (C : CU) : CdU W9 := fun v S κ => W9.rec (motive := fun _ => RU) (fun v0 v2 v3 v4 v5 v6 v46 v74 v76 => 
 uNewF 137 5 [(.n 0), (.s []), (.n 0), (.i .u64 0), (.n 0)] S fun v77 S =>
 κ .normal (.mk v0 v77 v3 v4 v5 v6 v46 v74 v76) S) v
def u137_1 (C : CU) : CdU W9 := fun v S κ => W9.rec (motive := fun _ => RU) (fun v0 v2 v3 v4 v5 v6 v46 v74 v76 => 
 uGet 1 v0 S fun v79 S =>
 uBuildF [(.n 0), (.s []), (.n 0), (.i .u64 0), (.n 0)] [(0, 1, (.n 2)), (4, 1, v79)] S fun v80 S =>
 uNewF 137 5 [(.n 0), (.s []), (.n 0), (.i .u64 0), (.n 0)] S fun v81 S =>
 uSt 5 v81 v80 S fun v82 S =>
 κ .normal (.mk v0 v2 v81 v4 v5 v6 v46 v74 v76) S) v
def u137_2 (C : CU) : CdU W9 := fun v S κ => W9.rec (motive := fun _ => RU) (fun v0 v2 v3 v4 v5 v6 v46 v74 v76 => 
 uGet 1 v0 S fun v79 S =>
 uAdd v79 (.n 2) S fun v80 S =>
 uNilc v0 S fun v81 S =>
 uFad 1 v81 S fun v82 S =>
 uSt 1 v82 v80 S fun v83 S =>
 κ .normal (.mk v0 v2 v3 v4 v5 v6 v46 v74 v76) S) v
def u137_3 (C : CU) : CdU W9 := fun v S κ => W9.rec (motive := fun _ => RU) (fun v0 v2 v3 v4 v5 v6 v46 v74 v76 => 
 uGet 1 v0 S fun v79 S =>
 κ .normal (.mk v0 v2 v3 v79 v5 v6 v46 v74 v76) S) v
def u137_4 (C : CU) : CdU W9 := fun v S κ => W9.rec (motive := fun _ => RU) (fun v0 v2 v3 v4 v5 v6 v46 v74 v76 => 
 κ .normal (.mk v0 v2 v3 v4 (.i .u64 0) v6 v46 v74 v76) S) v
def u137_5 (C : CU) : CdU W9 := fun v S κ => W9.rec (motive := fun _ => RU) (fun v0 v2 v3 v4 v5 v6 v46 v74 v76 => 
 uGet 1 v0 S fun v79 S =>
 uGet 0 v0 S fun v82 S =>
 uLen true v82 S fun v83 S =>
 uCmp ltN .lss v79 v83 S fun v84 S =>
 eT v84 fun b => cn b
 (uGet 0 v0 S fun v87 S =>
 uGet 1 v0 S fun v90 S =>
 uIdxS v87 v90 S fun v91 S =>
 uCall C 136 [v91] S fun v92 S =>
 uCmp (fun a b => Nat.ble b a) .geq v92 (.n 0) S fun v93 S =>
 κ .normal (.mk v0 v2 v3 v4 v5 v6 v93 v74 v76) S)
 (κ .normal (.mk v0 v2 v3 v4 v5 v6 (.t false) v74 v76) S)) v
def u137_6 : W9 → FV := fun v => W9.rec (motive := fun _ => FV) (fun v0 v2 v3 v4 v5 v6 v46 v74 v76 => v46) v
def u137_7 (C : CU) : CdU W9 := fun v S κ => W9.rec (motive := fun _ => RU) (fun v0 v2 v3 v4 v5 v6 v46 v74 v76 => 
 uSlow .shl v5 (.i .u64 4) S fun v77 S =>
 uGet 0 v0 S fun v80 S =>
 uGet 1 v0 S fun v83 S =>
 uIdxS v80 v83 S fun v84 S =>
 uCall C 136 [v84] S fun v85 S =>
 uCvI .u64 v85 S fun v86 S =>
 uSlow .or v77 v86 S fun v87 S =>
 κ .normal (.mk v0 v2 v3 v4 v87 v6 v46 v74 v76) S) v
def u137_8 (C : CU) : CdU W9 := fun v S κ => W9.rec (motive := fun _ => RU) (fun v0 v2 v3 v4 v5 v6 v46 v74 v76 => 
 uGet 1 v0 S fun v79 S =>
 uAdd v79 (.n 1) S fun v80 S =>
 uNilc v0 S fun v81 S =>
 uFad 1 v81 S fun v82 S =>
 uSt 1 v82 v80 S fun v83 S =>
 κ .normal (.mk v0 v2 v3 v4 v5 v6 v46 v74 v76) S) v
def u137_9 (C : CU) (n : Nat) : CdU W9 := seqU (seqU (u137_5 C) (condU u137_6 (skipU) (exitU 0))) (blockU 1 (seqU (u137_7 C) (u137_8 C)))
def u137_10 (C : CU) : CdU W9 := fun v S κ => W9.rec (motive := fun _ => RU) (fun v0 v2 v3 v4 v5 v6 v46 v74 v76 => 
 κ .normal (.mk v0 v2 v3 v4 v5 (.n 0) v46 v74 v76) S) v
def u137_11 (C : CU) : CdU W9 := fun v S κ => W9.rec (motive := fun _ => RU) (fun v0 v2 v3 v4 v5 v6 v46 v74 v76 => 
 uGet 1 v0 S fun v79 S =>
 uSub v79 v4 S fun v80 S =>
 uCmp (fun a b => ltN b a) .gtr v80 (.n 16) S fun v81 S =>
 κ .normal (.mk v0 v2 v3 v4 v5 v6 v46 v81 v76) S) v
def u137_12 : W9 → FV := fun v => W9.rec (motive := fun _ => FV) (fun v0 v2 v3 v4 v5 v6 v46 v74 v76 => v74) v
def u137_13 (C : CU) : CdU W9 := fun v S κ => W9.rec (motive := fun _ => RU) (fun v0 v2 v3 v4 v5 v6 v46 v74 v76 => 
 κ .normal (.mk v0 v2 v3 v4 v5 (.n 4) v46 v74 v76) S) v
def u137_14 (C : CU) : CdU W9 := fun v S κ => W9.rec (motive := fun _ => RU) (fun v0 v2 v3 v4 v5 v6 v46 v74 v76 => 
 uCmp (fun a b => ltN b a) .gtr v5 (.i .u64 9223372036854775807) S fun v77 S =>
 κ .normal (.mk v0 v2 v3 v4 v5 v6 v46 v74 v77) S) v
def u137_15 : W9 → FV := fun v => W9.rec (motive := fun _ => FV) (fun v0 v2 v3 v4 v5 v6 v46 v74 v76 => v76) v
def u137_16 (C : CU) : CdU W9 := fun v S κ => W9.rec (motive := fun _ => RU) (fun v0 v2 v3 v4 v5 v6 v46 v74 v76 => 
 κ .normal (.mk v0 v2 v3 v4 v5 (.n 5) v46 v74 v76) S) v
def u137_17 (C : CU) : CdU W9 := fun v S κ => W9.rec (motive := fun _ => RU) (fun v0 v2 v3 v4 v5 v6 v46 v74 v76 => 
 uCvI .i64 v5 S fun v77 S =>
 uFad 2 v3 S fun v78 S =>
 uSt 1 v78 v77 S fun v79 S =>
 κ .normal (.mk v0 v2 v3 v4 v5 v6 v46 v74 v76) S) v
def u137_18 (C : CU) : CdU W9 := fun v S κ => W9.rec (motive := fun _ => RU) (fun v0 v2 v3 v4 v5 v6 v46 v74 v76 => 
 uLd (some 5) v3 S fun v77 S =>
 uCall C 142 [v0, v77, v6] S fun v78 S =>
 uSt 5 v2 v78 S fun v79 S =>
 κ .normal (.mk v0 v2 v3 v4 v5 v6 v46 v74 v76) S) v
def u137r (v : W9) (S : FAW) : RU := W9.rec (motive := fun _ => RU) (fun v0 v2 v3 v4 v5 v6 v46 v74 v76 => uLd (some 5) v2 S fun r2 _ => .ok r2 S) v
def u137 : Fu := fun C n args S => (seqU (u137_0 C) (seqU (u137_1 C) (seqU (u137_2 C) (seqU (u137_3 C) (seqU (u137_4 C) (seqU (blockU 0 (loopU n (u137_9 C n))) (seqU (u137_10 C) (seqU (seqU (u137_11 C) (condU u137_12 (u137_13 C) (seqU (u137_14 C) (condU u137_15 (u137_16 C) (skipU))))) (seqU (u137_17 C) (seqU (u137_18 C) (retU)))))))))) : CdU W9) (.mk (argU args 0) (argU args 2) (argU args 3) (argU args 4) (argU args 5) (argU args 6) (argU args 46) (argU args 74) (argU args 76)) S fun o v S => exU o (u137r v S) (fun _ => .no) (u137r v S)
/-! (*assayer/assayerref5.lexer).digits -/
def u138_0 (C : CU) : CdU W4 := fun v S κ => W4.rec (motive := fun _ => RU) (fun v0 v2 v3 v29 => 
 κ .normal (.mk v0 (.t false) v3 v29) S) v
def u138_1 (C : CU) : CdU W4 := fun v S κ => W4.rec (motive := fun _ => RU) (fun v0 v2 v3 v29 => 
 uGet 1 v0 S fun v32 S =>
 κ .normal (.mk v0 v2 v32 v29) S) v
def u138_2 (C : CU) : CdU W4 := fun v S κ => W4.rec (motive := fun _ => RU) (fun v0 v2 v3 v29 => 
 uGet 1 v0 S fun v32 S =>
 uGet 0 v0 S fun v35 S =>
 uLen true v35 S fun v36 S =>
 uCmp ltN .lss v32 v36 S fun v37 S =>
 eT v37 fun b => cn b
 (uGet 0 v0 S fun v40 S =>
 uGet 1 v0 S fun v43 S =>
 uIdxS v40 v43 S fun v44 S =>
 uCall C 41 [v44] S fun v45 S =>
 κ .normal (.mk v0 v2 v3 v45) S)
 (κ .normal (.mk v0 v2 v3 (.t false)) S)) v
def u138_3 : W4 → FV := fun v => W4.rec (motive := fun _ => FV) (fun v0 v2 v3 v29 => v29) v
def u138_4 (C : CU) : CdU W4 := fun v S κ => W4.rec (motive := fun _ => RU) (fun v0 v2 v3 v29 => 
 uGet 1 v0 S fun v32 S =>
 uAdd v32 (.n 1) S fun v33 S =>
 uNilc v0 S fun v34 S =>
 uFad 1 v34 S fun v35 S =>
 uSt 1 v35 v33 S fun v36 S =>
 κ .normal (.mk v0 v2 v3 v29) S) v
def u138_5 (C : CU) (n : Nat) : CdU W4 := seqU (seqU (u138_2 C) (condU u138_3 (skipU) (exitU 0))) (blockU 1 (u138_4 C))
def u138_6 (C : CU) : CdU W4 := fun v S κ => W4.rec (motive := fun _ => RU) (fun v0 v2 v3 v29 => 
 uGet 1 v0 S fun v32 S =>
 uCmp (fun a b => ltN b a) .gtr v32 v3 S fun v33 S =>
 κ .normal (.mk v0 v33 v3 v29) S) v
def u138r (v : W4) (S : FAW) : RU := W4.rec (motive := fun _ => RU) (fun v0 v2 v3 v29 => .ok v2 S) v
def u138 : Fu := fun C n args S => (seqU (u138_0 C) (seqU (u138_1 C) (seqU (blockU 0 (loopU n (u138_5 C n))) (seqU (u138_6 C) (retU)))) : CdU W4) (.mk (argU args 0) (argU args 2) (argU args 3) (argU args 29)) S fun o v S => exU o (u138r v S) (fun _ => .no) (u138r v S)
/-! (*assayer/assayerref5.lexer).has -/
def u139_0 (C : CU) : CdU W3 := fun v S κ => W3.rec (motive := fun _ => RU) (fun v0 v1 v4 => 
 κ .normal (.mk v0 v1 (.t false)) S) v
def u139_1 (C : CU) : CdU W3 := fun v S κ => W3.rec (motive := fun _ => RU) (fun v0 v1 v4 => 
 uGet 1 v0 S fun v7 S =>
 uAdd v7 v1 S fun v8 S =>
 uGet 0 v0 S fun v11 S =>
 uLen true v11 S fun v12 S =>
 uCmp ltN .lss v8 v12 S fun v13 S =>
 eT v13 fun b => cn b
 (uGet 0 v0 S fun v16 S =>
 uGet 1 v0 S fun v19 S =>
 uAdd v19 v1 S fun v20 S =>
 uIdxS v16 v20 S fun v21 S =>
 uCall C 41 [v21] S fun v22 S =>
 κ .normal (.mk v0 v1 v22) S)
 (κ .normal (.mk v0 v1 (.t false)) S)) v
def u139r (v : W3) (S : FAW) : RU := W3.rec (motive := fun _ => RU) (fun v0 v1 v4 => .ok v4 S) v
def u139 : Fu := fun C n args S => (seqU (u139_0 C) (seqU (u139_1 C) (retU)) : CdU W3) (.mk (argU args 0) (argU args 1) (argU args 4)) S fun o v S => exU o (u139r v S) (fun _ => .no) (u139r v S)
/-! assayer/assayerref5.ten -/
def u140_0 (C : CU) : CdU W13 := fun v S κ => W13.rec (motive := fun _ => RU) (fun v0 v2 v3 v4 v5 v6 v7 v16 v21 v25 v37 v47 v48 => 
 κ .normal (.mk v0 (.n 0) (.n 0) v4 v5 v6 v7 v16 v21 v25 v37 v47 v48) S) v
def u140_1 (C : CU) : CdU W13 := fun v S κ => W13.rec (motive := fun _ => RU) (fun v0 v2 v3 v4 v5 v6 v7 v16 v21 v25 v37 v47 v48 => 
 uIdxS v0 (.n 0) S fun v49 S =>
 uEq false .eql v49 (.b 45) S fun v50 S =>
 κ .normal (.mk v0 v2 v3 v50 v5 v6 v7 v16 v21 v25 v37 v47 v48) S) v
def u140_2 (C : CU) : CdU W13 := fun v S κ => W13.rec (motive := fun _ => RU) (fun v0 v2 v3 v4 v5 v6 v7 v16 v21 v25 v37 v47 v48 => 
 eT v4 fun b => cn b
 (κ .normal (.mk v0 v2 v3 v4 v5 v6 v7 (.t true) v21 v25 v37 v47 v48) S)
 (uIdxS v0 (.n 0) S fun v49 S =>
 uEq false .eql v49 (.b 43) S fun v50 S =>
 κ .normal (.mk v0 v2 v3 v4 v5 v6 v7 v50 v21 v25 v37 v47 v48) S)) v
def u140_3 : W13 → FV := fun v => W13.rec (motive := fun _ => FV) (fun v0 v2 v3 v4 v5 v6 v7 v16 v21 v25 v37 v47 v48 => v16) v
def u140_4 (C : CU) : CdU W13 := fun v S κ => W13.rec (motive := fun _ => RU) (fun v0 v2 v3 v4 v5 v6 v7 v16 v21 v25 v37 v47 v48 => 
 uSlS v0 (some (.n 1)) none S fun v49 S =>
 κ .normal (.mk v49 v2 v3 v4 v5 v6 v7 v16 v21 v25 v37 v47 v48) S) v
def u140_5 (C : CU) : CdU W13 := fun v S κ => W13.rec (motive := fun _ => RU) (fun v0 v2 v3 v4 v5 v6 v7 v16 v21 v25 v37 v47 v48 => 
 uLen true v0 S fun v49 S =>
 uCmp (fun a b => ltN b a) .gtr v49 (.n 60) S fun v50 S =>
 κ .normal (.mk v0 v2 v3 v4 v5 v6 v7 v16 v50 v25 v37 v47 v48) S) v
def u140_6 : W13 → FV := fun v => W13.rec (motive := fun _ => FV) (fun v0 v2 v3 v4 v5 v6 v7 v16 v21 v25 v37 v47 v48 => v21) v
def u140_7 (C : CU) : CdU W13 := fun v S κ => W13.rec (motive := fun _ => RU) (fun v0 v2 v3 v4 v5 v6 v7 v16 v21 v25 v37 v47 v48 => 
 κ .normal (.mk v0 (.n 0) (.n 4) v4 v5 v6 v7 v16 v21 v25 v37 v47 v48) S) v
def u140_8 (C : CU) : CdU W13 := fun v S κ => W13.rec (motive := fun _ => RU) (fun v0 v2 v3 v4 v5 v6 v7 v16 v21 v25 v37 v47 v48 => 
 κ .normal (.mk v0 v2 v3 v4 (.i .u64 0) v6 v7 v16 v21 v25 v37 v47 v48) S) v
def u140_9 (C : CU) : CdU W13 := fun v S κ => W13.rec (motive := fun _ => RU) (fun v0 v2 v3 v4 v5 v6 v7 v16 v21 v25 v37 v47 v48 => 
 κ .normal (.mk v0 v2 v3 v4 v5 (.n 0) v7 v16 v21 v25 v37 v47 v48) S) v
def u140_10 (C : CU) : CdU W13 := fun v S κ => W13.rec (motive := fun _ => RU) (fun v0 v2 v3 v4 v5 v6 v7 v16 v21 v25 v37 v47 v48 => 
 uLen true v0 S fun v49 S =>
 uCmp ltN .lss v6 v49 S fun v50 S =>
 κ .normal (.mk v0 v2 v3 v4 v5 v6 v7 v16 v21 v50 v37 v47 v48) S) v
def u140_11 : W13 → FV := fun v => W13.rec (motive := fun _ => FV) (fun v0 v2 v3 v4 v5 v6 v7 v16 v21 v25 v37 v47 v48 => v25) v
def u140_12 (C : CU) : CdU W13 := fun v S κ => W13.rec (motive := fun _ => RU) (fun v0 v2 v3 v4 v5 v6 v7 v16 v21 v25 v37 v47 v48 => 
 uIdxS v0 v6 S fun v49 S =>
 uSub v49 (.b 48) S fun v50 S =>
 uCvI .u64 v50 S fun v51 S =>
 κ .normal (.mk v0 v2 v3 v4 v5 v6 v51 v16 v21 v25 v37 v47 v48) S) v
def u140_13 (C : CU) : CdU W13 := fun v S κ => W13.rec (motive := fun _ => RU) (fun v0 v2 v3 v4 v5 v6 v7 v16 v21 v25 v37 v47 v48 => 
 uSub (.i .u64 9223372036854775808) v7 S fun v49 S =>
 uQuo true .quo v49 (.i .u64 10) S fun v50 S =>
 uCmp (fun a b => ltN b a) .gtr v5 v50 S fun v51 S =>
 κ .normal (.mk v0 v2 v3 v4 v5 v6 v7 v16 v21 v25 v51 v47 v48) S) v
def u140_14 : W13 → FV := fun v => W13.rec (motive := fun _ => FV) (fun v0 v2 v3 v4 v5 v6 v7 v16 v21 v25 v37 v47 v48 => v37) v
def u140_15 (C : CU) : CdU W13 := fun v S κ => W13.rec (motive := fun _ => RU) (fun v0 v2 v3 v4 v5 v6 v7 v16 v21 v25 v37 v47 v48 => 
 κ .normal (.mk v0 (.n 0) (.n 5) v4 v5 v6 v7 v16 v21 v25 v37 v47 v48) S) v
def u140_16 (C : CU) : CdU W13 := fun v S κ => W13.rec (motive := fun _ => RU) (fun v0 v2 v3 v4 v5 v6 v7 v16 v21 v25 v37 v47 v48 => 
 uMul v5 (.i .u64 10) S fun v49 S =>
 uAdd v49 v7 S fun v50 S =>
 κ .normal (.mk v0 v2 v3 v4 v50 v6 v7 v16 v21 v25 v37 v47 v48) S) v
def u140_17 (C : CU) : CdU W13 := fun v S κ => W13.rec (motive := fun _ => RU) (fun v0 v2 v3 v4 v5 v6 v7 v16 v21 v25 v37 v47 v48 => 
 uAdd v6 (.n 1) S fun v49 S =>
 κ .normal (.mk v0 v2 v3 v4 v5 v49 v7 v16 v21 v25 v37 v47 v48) S) v
def u140_18 (C : CU) (n : Nat) : CdU W13 := seqU (seqU (u140_10 C) (condU u140_11 (skipU) (exitU 0))) (seqU (blockU 1 (seqU (u140_12 C) (seqU (seqU (u140_13 C) (condU u140_14 (seqU (u140_15 C) (retU)) (skipU))) (u140_16 C)))) (u140_17 C))
def u140_19 (C : CU) : CdU W13 := fun v S κ => W13.rec (motive := fun _ => RU) (fun v0 v2 v3 v4 v5 v6 v7 v16 v21 v25 v37 v47 v48 => 
 uNot v4 S fun v49 S =>
 eT v49 fun b => cn b
 (uCmp (fun a b => ltN b a) .gtr v5 (.i .u64 9223372036854775807) S fun v50 S =>
 κ .normal (.mk v0 v2 v3 v4 v5 v6 v7 v16 v21 v25 v37 v50 v48) S)
 (κ .normal (.mk v0 v2 v3 v4 v5 v6 v7 v16 v21 v25 v37 (.t false) v48) S)) v
def u140_20 : W13 → FV := fun v => W13.rec (motive := fun _ => FV) (fun v0 v2 v3 v4 v5 v6 v7 v16 v21 v25 v37 v47 v48 => v47) v
def u140_21 (C : CU) : CdU W13 := fun v S κ => W13.rec (motive := fun _ => RU) (fun v0 v2 v3 v4 v5 v6 v7 v16 v21 v25 v37 v47 v48 => 
 κ .normal (.mk v0 (.n 0) (.n 5) v4 v5 v6 v7 v16 v21 v25 v37 v47 v48) S) v
def u140_22 (C : CU) : CdU W13 := fun v S κ => W13.rec (motive := fun _ => RU) (fun v0 v2 v3 v4 v5 v6 v7 v16 v21 v25 v37 v47 v48 => 
 κ .normal (.mk v0 v2 v3 v4 v5 v6 v7 v16 v21 v25 v37 v47 v4) S) v
def u140_23 : W13 → FV := fun v => W13.rec (motive := fun _ => FV) (fun v0 v2 v3 v4 v5 v6 v7 v16 v21 v25 v37 v47 v48 => v48) v
def u140_24 (C : CU) : CdU W13 := fun v S κ => W13.rec (motive := fun _ => RU) (fun v0 v2 v3 v4 v5 v6 v7 v16 v21 v25 v37 v47 v48 => 
 uSub v5 (.i .u64 1) S fun v49 S =>
 uCvI .i64 v49 S fun v50 S =>
 uUn .neg v50 S fun v51 S =>
 uSub v51 (.n 1) S fun v52 S =>
 κ .normal (.mk v0 v52 (.n 0) v4 v5 v6 v7 v16 v21 v25 v37 v47 v48) S) v
def u140_25 (C : CU) : CdU W13 := fun v S κ => W13.rec (motive := fun _ => RU) (fun v0 v2 v3 v4 v5 v6 v7 v16 v21 v25 v37 v47 v48 => 
 uCvI .i64 v5 S fun v49 S =>
 κ .normal (.mk v0 v49 (.n 0) v4 v5 v6 v7 v16 v21 v25 v37 v47 v48) S) v
def u140r (v : W13) (S : FAW) : RU := W13.rec (motive := fun _ => RU) (fun v0 v2 v3 v4 v5 v6 v7 v16 v21 v25 v37 v47 v48 => .ok (.u [v2, v3]) S) v
def u140 : Fu := fun C n args S => (seqU (u140_0 C) (seqU (u140_1 C) (seqU (seqU (u140_2 C) (condU u140_3 (u140_4 C) (skipU))) (seqU (seqU (u140_5 C) (condU u140_6 (seqU (u140_7 C) (retU)) (skipU))) (seqU (u140_8 C) (seqU (seqU (u140_9 C) (blockU 0 (loopU n (u140_18 C n)))) (seqU (seqU (u140_19 C) (condU u140_20 (seqU (u140_21 C) (retU)) (skipU))) (seqU (seqU (u140_22 C) (condU u140_23 (seqU (u140_24 C) (retU)) (skipU))) (seqU (u140_25 C) (retU))))))))) : CdU W13) (.mk (argU args 0) (argU args 2) (argU args 3) (argU args 4) (argU args 5) (argU args 6) (argU args 7) (argU args 16) (argU args 21) (argU args 25) (argU args 37) (argU args 47) (argU args 48)) S fun o v S => exU o (u140r v S) (fun _ => .no) (u140r v S)
/-! assayer/assayerref1.Parse -/
def u141_0 (C : CU) : CdU W27 := fun v S κ => W27.rec (motive := fun _ => RU) (fun v0 v2 v3 v4 v5 v6 v7 v8 v9 v10 v11 v12 v13 v14 v15 v28 v31 v55 v58 v65 v79 v87 v91 v92 v96 v114 v129 => 
 κ .normal (.mk v0 (.i .u64 0) (.n 0) v4 v5 v6 v7 v8 v9 v10 v11 v12 v13 v14 v15 v28 v31 v55 v58 v65 v79 v87 v91 v92 v96 v114 v129) S) v
def u141_1 (C : CU) : CdU W27 := fun v S κ => W27.rec (motive := fun _ => RU) (fun v0 v2 v3 v4 v5 v6 v7 v8 v9 v10 v11 v12 v13 v14 v15 v28 v31 v55 v58 v65 v79 v87 v91 v92 v96 v114 v129 => 
 κ .normal (.mk v0 v2 v3 (.i .u64 0) v5 v6 v7 v8 v9 v10 v11 v12 v13 v14 v15 v28 v31 v55 v58 v65 v79 v87 v91 v92 v96 v114 v129) S) v
def u141_2 (C : CU) : CdU W27 := fun v S κ => W27.rec (motive := fun _ => RU) (fun v0 v2 v3 v4 v5 v6 v7 v8 v9 v10 v11 v12 v13 v14 v15 v28 v31 v55 v58 v65 v79 v87 v91 v92 v96 v114 v129 => 
 uLen true v0 S fun v130 S =>
 uCmp (fun a b => ltN b a) .gtr v130 (.n 0) S fun v131 S =>
 eT v131 fun b => cn b
 (uIdxS v0 (.n 0) S fun v132 S =>
 uEq false .eql v132 (.b 43) S fun v133 S =>
 eT v133 fun b => cn b
 (κ .normal (.mk v0 v2 v3 v4 v5 v6 v7 v8 v9 v10 v11 v12 v13 v14 v15 (.t true) v31 v55 v58 v65 v79 v87 v91 v92 v96 v114 v129) S)
 (uIdxS v0 (.n 0) S fun v134 S =>
 uEq false .eql v134 (.b 45) S fun v135 S =>
 κ .normal (.mk v0 v2 v3 v4 v5 v6 v7 v8 v9 v10 v11 v12 v13 v14 v15 v135 v31 v55 v58 v65 v79 v87 v91 v92 v96 v114 v129) S))
 (κ .normal (.mk v0 v2 v3 v4 v5 v6 v7 v8 v9 v10 v11 v12 v13 v14 v15 (.t false) v31 v55 v58 v65 v79 v87 v91 v92 v96 v114 v129) S)) v
def u141_3 : W27 → FV := fun v => W27.rec (motive := fun _ => FV) (fun v0 v2 v3 v4 v5 v6 v7 v8 v9 v10 v11 v12 v13 v14 v15 v28 v31 v55 v58 v65 v79 v87 v91 v92 v96 v114 v129 => v28) v
def u141_4 (C : CU) : CdU W27 := fun v S κ => W27.rec (motive := fun _ => RU) (fun v0 v2 v3 v4 v5 v6 v7 v8 v9 v10 v11 v12 v13 v14 v15 v28 v31 v55 v58 v65 v79 v87 v91 v92 v96 v114 v129 => 
 uIdxS v0 (.n 0) S fun v130 S =>
 uEq false .eql v130 (.b 45) S fun v131 S =>
 κ .normal (.mk v0 v2 v3 v4 v5 v6 v7 v8 v9 v10 v11 v12 v13 v14 v15 v28 v131 v55 v58 v65 v79 v87 v91 v92 v96 v114 v129) S) v
def u141_5 : W27 → FV := fun v => W27.rec (motive := fun _ => FV) (fun v0 v2 v3 v4 v5 v6 v7 v8 v9 v10 v11 v12 v13 v14 v15 v28 v31 v55 v58 v65 v79 v87 v91 v92 v96 v114 v129 => v31) v
def u141_6 (C : CU) : CdU W27 := fun v S κ => W27.rec (motive := fun _ => RU) (fun v0 v2 v3 v4 v5 v6 v7 v8 v9 v10 v11 v12 v13 v14 v15 v28 v31 v55 v58 v65 v79 v87 v91 v92 v96 v114 v129 => 
 κ .normal (.mk v0 v2 v3 (.i .u64 9223372036854775808) v5 v6 v7 v8 v9 v10 v11 v12 v13 v14 v15 v28 v31 v55 v58 v65 v79 v87 v91 v92 v96 v114 v129) S) v
def u141_7 (C : CU) : CdU W27 := fun v S κ => W27.rec (motive := fun _ => RU) (fun v0 v2 v3 v4 v5 v6 v7 v8 v9 v10 v11 v12 v13 v14 v15 v28 v31 v55 v58 v65 v79 v87 v91 v92 v96 v114 v129 => 
 uSlS v0 (some (.n 1)) none S fun v130 S =>
 κ .normal (.mk v130 v2 v3 v4 v5 v6 v7 v8 v9 v10 v11 v12 v13 v14 v15 v28 v31 v55 v58 v65 v79 v87 v91 v92 v96 v114 v129) S) v
def u141_8 (C : CU) : CdU W27 := fun v S κ => W27.rec (motive := fun _ => RU) (fun v0 v2 v3 v4 v5 v6 v7 v8 v9 v10 v11 v12 v13 v14 v15 v28 v31 v55 v58 v65 v79 v87 v91 v92 v96 v114 v129 => 
 κ .normal (.mk v0 v2 v3 v4 .nl v6 v7 v8 v9 v10 v11 v12 v13 v14 v15 v28 v31 v55 v58 v65 v79 v87 v91 v92 v96 v114 v129) S) v
def u141_9 (C : CU) : CdU W27 := fun v S κ => W27.rec (motive := fun _ => RU) (fun v0 v2 v3 v4 v5 v6 v7 v8 v9 v10 v11 v12 v13 v14 v15 v28 v31 v55 v58 v65 v79 v87 v91 v92 v96 v114 v129 => 
 κ .normal (.mk v0 v2 v3 v4 v5 (.t false) (.n 0) v8 v9 v10 v11 v12 v13 v14 v15 v28 v31 v55 v58 v65 v79 v87 v91 v92 v96 v114 v129) S) v
def u141_10 (C : CU) : CdU W27 := fun v S κ => W27.rec (motive := fun _ => RU) (fun v0 v2 v3 v4 v5 v6 v7 v8 v9 v10 v11 v12 v13 v14 v15 v28 v31 v55 v58 v65 v79 v87 v91 v92 v96 v114 v129 => 
 uLen true v0 S fun v130 S =>
 uCmp (fun a b => ltN b a) .gtr v130 (.n 0) S fun v131 S =>
 eT v131 fun b => cn b
 (uIdxS v0 (.n 0) S fun v132 S =>
 uCmp (fun a b => Nat.ble b a) .geq v132 (.b 48) S fun v133 S =>
 eT v133 fun b => cn b
 (uIdxS v0 (.n 0) S fun v134 S =>
 uCmp Nat.ble .leq v134 (.b 57) S fun v135 S =>
 eT v135 fun b => cn b
 (κ .normal (.mk v0 v2 v3 v4 v5 v6 v7 v8 v9 v10 v11 v12 v13 v14 v15 v28 v31 (.t true) v58 v65 v79 v87 v91 v92 v96 v114 v129) S)
 (uIdxS v0 (.n 0) S fun v136 S =>
 uEq false .eql v136 (.b 46) S fun v137 S =>
 eT v137 fun b => cn b
 (uNot v6 S fun v138 S =>
 κ .normal (.mk v0 v2 v3 v4 v5 v6 v7 v8 v9 v10 v11 v12 v13 v14 v15 v28 v31 v138 v58 v65 v79 v87 v91 v92 v96 v114 v129) S)
 (κ .normal (.mk v0 v2 v3 v4 v5 v6 v7 v8 v9 v10 v11 v12 v13 v14 v15 v28 v31 (.t false) v58 v65 v79 v87 v91 v92 v96 v114 v129) S)))
 (uIdxS v0 (.n 0) S fun v134 S =>
 uEq false .eql v134 (.b 46) S fun v135 S =>
 eT v135 fun b => cn b
 (uNot v6 S fun v136 S =>
 κ .normal (.mk v0 v2 v3 v4 v5 v6 v7 v8 v9 v10 v11 v12 v13 v14 v15 v28 v31 v136 v58 v65 v79 v87 v91 v92 v96 v114 v129) S)
 (κ .normal (.mk v0 v2 v3 v4 v5 v6 v7 v8 v9 v10 v11 v12 v13 v14 v15 v28 v31 (.t false) v58 v65 v79 v87 v91 v92 v96 v114 v129) S)))
 (κ .normal (.mk v0 v2 v3 v4 v5 v6 v7 v8 v9 v10 v11 v12 v13 v14 v15 v28 v31 (.t false) v58 v65 v79 v87 v91 v92 v96 v114 v129) S)) v
def u141_11 : W27 → FV := fun v => W27.rec (motive := fun _ => FV) (fun v0 v2 v3 v4 v5 v6 v7 v8 v9 v10 v11 v12 v13 v14 v15 v28 v31 v55 v58 v65 v79 v87 v91 v92 v96 v114 v129 => v55) v
def u141_12 (C : CU) : CdU W27 := fun v S κ => W27.rec (motive := fun _ => RU) (fun v0 v2 v3 v4 v5 v6 v7 v8 v9 v10 v11 v12 v13 v14 v15 v28 v31 v55 v58 v65 v79 v87 v91 v92 v96 v114 v129 => 
 uIdxS v0 (.n 0) S fun v130 S =>
 uEq false .eql v130 (.b 46) S fun v131 S =>
 κ .normal (.mk v0 v2 v3 v4 v5 v6 v7 v8 v9 v10 v11 v12 v13 v14 v15 v28 v31 v55 v131 v65 v79 v87 v91 v92 v96 v114 v129) S) v
def u141_13 : W27 → FV := fun v => W27.rec (motive := fun _ => FV) (fun v0 v2 v3 v4 v5 v6 v7 v8 v9 v10 v11 v12 v13 v14 v15 v28 v31 v55 v58 v65 v79 v87 v91 v92 v96 v114 v129 => v58) v
def u141_14 (C : CU) : CdU W27 := fun v S κ => W27.rec (motive := fun _ => RU) (fun v0 v2 v3 v4 v5 v6 v7 v8 v9 v10 v11 v12 v13 v14 v15 v28 v31 v55 v58 v65 v79 v87 v91 v92 v96 v114 v129 => 
 κ .normal (.mk v0 v2 v3 v4 v5 (.t true) v7 v8 v9 v10 v11 v12 v13 v14 v15 v28 v31 v55 v58 v65 v79 v87 v91 v92 v96 v114 v129) S) v
def u141_15 (C : CU) : CdU W27 := fun v S κ => W27.rec (motive := fun _ => RU) (fun v0 v2 v3 v4 v5 v6 v7 v8 v9 v10 v11 v12 v13 v14 v15 v28 v31 v55 v58 v65 v79 v87 v91 v92 v96 v114 v129 => 
 uIdxS v0 (.n 0) S fun v130 S =>
 uSub v130 (.b 48) S fun v131 S =>
 uLitF 5 1 [(.b 0)] 1 [(0, 1, v131)] S fun v132 S =>
 uApp 5 1 1 v5 v132 S fun v133 S =>
 κ .normal (.mk v0 v2 v3 v4 v133 v6 v7 v8 v9 v10 v11 v12 v13 v14 v15 v28 v31 v55 v58 v65 v79 v87 v91 v92 v96 v114 v129) S) v
def u141_16 (C : CU) : CdU W27 := fun v S κ => W27.rec (motive := fun _ => RU) (fun v0 v2 v3 v4 v5 v6 v7 v8 v9 v10 v11 v12 v13 v14 v15 v28 v31 v55 v58 v65 v79 v87 v91 v92 v96 v114 v129 => 
 κ .normal (.mk v0 v2 v3 v4 v5 v6 v7 v8 v9 v10 v11 v12 v13 v14 v15 v28 v31 v55 v58 v6 v79 v87 v91 v92 v96 v114 v129) S) v
def u141_17 : W27 → FV := fun v => W27.rec (motive := fun _ => FV) (fun v0 v2 v3 v4 v5 v6 v7 v8 v9 v10 v11 v12 v13 v14 v15 v28 v31 v55 v58 v65 v79 v87 v91 v92 v96 v114 v129 => v65) v
def u141_18 (C : CU) : CdU W27 := fun v S κ => W27.rec (motive := fun _ => RU) (fun v0 v2 v3 v4 v5 v6 v7 v8 v9 v10 v11 v12 v13 v14 v15 v28 v31 v55 v58 v65 v79 v87 v91 v92 v96 v114 v129 => 
 uAdd v7 (.n 1) S fun v130 S =>
 κ .normal (.mk v0 v2 v3 v4 v5 v6 v130 v8 v9 v10 v11 v12 v13 v14 v15 v28 v31 v55 v58 v65 v79 v87 v91 v92 v96 v114 v129) S) v
def u141_19 (C : CU) : CdU W27 := fun v S κ => W27.rec (motive := fun _ => RU) (fun v0 v2 v3 v4 v5 v6 v7 v8 v9 v10 v11 v12 v13 v14 v15 v28 v31 v55 v58 v65 v79 v87 v91 v92 v96 v114 v129 => 
 uSlS v0 (some (.n 1)) none S fun v130 S =>
 κ .normal (.mk v130 v2 v3 v4 v5 v6 v7 v8 v9 v10 v11 v12 v13 v14 v15 v28 v31 v55 v58 v65 v79 v87 v91 v92 v96 v114 v129) S) v
def u141_20 (C : CU) (n : Nat) : CdU W27 := seqU (seqU (u141_10 C) (condU u141_11 (skipU) (exitU 0))) (blockU 1 (seqU (seqU (u141_12 C) (condU u141_13 (u141_14 C) (seqU (u141_15 C) (seqU (u141_16 C) (condU u141_17 (u141_18 C) (skipU)))))) (u141_19 C)))
def u141_21 (C : CU) : CdU W27 := fun v S κ => W27.rec (motive := fun _ => RU) (fun v0 v2 v3 v4 v5 v6 v7 v8 v9 v10 v11 v12 v13 v14 v15 v28 v31 v55 v58 v65 v79 v87 v91 v92 v96 v114 v129 => 
 uLen false v5 S fun v130 S =>
 uEq false .eql v130 (.n 0) S fun v131 S =>
 eT v131 fun b => cn b
 (κ .normal (.mk v0 v2 v3 v4 v5 v6 v7 v8 v9 v10 v11 v12 v13 v14 v15 v28 v31 v55 v58 v65 (.t true) v87 v91 v92 v96 v114 v129) S)
 (eT v6 fun b => cn b
 (uEq false .eql v7 (.n 0) S fun v132 S =>
 κ .normal (.mk v0 v2 v3 v4 v5 v6 v7 v8 v9 v10 v11 v12 v13 v14 v15 v28 v31 v55 v58 v65 v132 v87 v91 v92 v96 v114 v129) S)
 (κ .normal (.mk v0 v2 v3 v4 v5 v6 v7 v8 v9 v10 v11 v12 v13 v14 v15 v28 v31 v55 v58 v65 (.t false) v87 v91 v92 v96 v114 v129) S))) v
def u141_22 : W27 → FV := fun v => W27.rec (motive := fun _ => FV) (fun v0 v2 v3 v4 v5 v6 v7 v8 v9 v10 v11 v12 v13 v14 v15 v28 v31 v55 v58 v65 v79 v87 v91 v92 v96 v114 v129 => v79) v
def u141_23 (C : CU) : CdU W27 := fun v S κ => W27.rec (motive := fun _ => RU) (fun v0 v2 v3 v4 v5 v6 v7 v8 v9 v10 v11 v12 v13 v14 v15 v28 v31 v55 v58 v65 v79 v87 v91 v92 v96 v114 v129 => 
 κ .normal (.mk v0 (.i .u64 0) (.n 2) v4 v5 v6 v7 v8 v9 v10 v11 v12 v13 v14 v15 v28 v31 v55 v58 v65 v79 v87 v91 v92 v96 v114 v129) S) v
def u141_24 (C : CU) : CdU W27 := fun v S κ => W27.rec (motive := fun _ => RU) (fun v0 v2 v3 v4 v5 v6 v7 v8 v9 v10 v11 v12 v13 v14 v15 v28 v31 v55 v58 v65 v79 v87 v91 v92 v96 v114 v129 => 
 uCall C 158 [v0] S fun v130 S =>
 uExt 0 v130 S fun v131 S =>
 uExt 1 v130 S fun v132 S =>
 uExt 2 v130 S fun v133 S =>
 κ .normal (.mk v0 v2 v3 v4 v5 v6 v7 v131 v132 v133 v11 v12 v13 v14 v15 v28 v31 v55 v58 v65 v79 v87 v91 v92 v96 v114 v129) S) v
def u141_25 (C : CU) : CdU W27 := fun v S κ => W27.rec (motive := fun _ => RU) (fun v0 v2 v3 v4 v5 v6 v7 v8 v9 v10 v11 v12 v13 v14 v15 v28 v31 v55 v58 v65 v79 v87 v91 v92 v96 v114 v129 => 
 uEq true .neq v10 (.n 0) S fun v130 S =>
 κ .normal (.mk v0 v2 v3 v4 v5 v6 v7 v8 v9 v10 v11 v12 v13 v14 v15 v28 v31 v55 v58 v65 v79 v130 v91 v92 v96 v114 v129) S) v
def u141_26 : W27 → FV := fun v => W27.rec (motive := fun _ => FV) (fun v0 v2 v3 v4 v5 v6 v7 v8 v9 v10 v11 v12 v13 v14 v15 v28 v31 v55 v58 v65 v79 v87 v91 v92 v96 v114 v129 => v87) v
def u141_27 (C : CU) : CdU W27 := fun v S κ => W27.rec (motive := fun _ => RU) (fun v0 v2 v3 v4 v5 v6 v7 v8 v9 v10 v11 v12 v13 v14 v15 v28 v31 v55 v58 v65 v79 v87 v91 v92 v96 v114 v129 => 
 κ .normal (.mk v0 (.i .u64 0) v10 v4 v5 v6 v7 v8 v9 v10 v11 v12 v13 v14 v15 v28 v31 v55 v58 v65 v79 v87 v91 v92 v96 v114 v129) S) v
def u141_28 (C : CU) : CdU W27 := fun v S κ => W27.rec (motive := fun _ => RU) (fun v0 v2 v3 v4 v5 v6 v7 v8 v9 v10 v11 v12 v13 v14 v15 v28 v31 v55 v58 v65 v79 v87 v91 v92 v96 v114 v129 => 
 uLen false v5 S fun v130 S =>
 uCmp (fun a b => ltN b a) .gtr v130 (.n 60) S fun v131 S =>
 κ .normal (.mk v0 v2 v3 v4 v5 v6 v7 v8 v9 v10 v11 v12 v13 v14 v15 v28 v31 v55 v58 v65 v79 v87 v131 v92 v96 v114 v129) S) v
def u141_29 : W27 → FV := fun v => W27.rec (motive := fun _ => FV) (fun v0 v2 v3 v4 v5 v6 v7 v8 v9 v10 v11 v12 v13 v14 v15 v28 v31 v55 v58 v65 v79 v87 v91 v92 v96 v114 v129 => v91) v
def u141_30 (C : CU) : CdU W27 := fun v S κ => W27.rec (motive := fun _ => RU) (fun v0 v2 v3 v4 v5 v6 v7 v8 v9 v10 v11 v12 v13 v14 v15 v28 v31 v55 v58 v65 v79 v87 v91 v92 v96 v114 v129 => 
 κ .normal (.mk v0 (.i .u64 0) (.n 4) v4 v5 v6 v7 v8 v9 v10 v11 v12 v13 v14 v15 v28 v31 v55 v58 v65 v79 v87 v91 v92 v96 v114 v129) S) v
def u141_31 (C : CU) : CdU W27 := fun v S κ => W27.rec (motive := fun _ => RU) (fun v0 v2 v3 v4 v5 v6 v7 v8 v9 v10 v11 v12 v13 v14 v15 v28 v31 v55 v58 v65 v79 v87 v91 v92 v96 v114 v129 => 
 κ .normal (.mk v0 v2 v3 v4 v5 v6 v7 v8 v9 v10 v11 v12 v13 v14 v15 v28 v31 v55 v58 v65 v79 v87 v91 v9 v96 v114 v129) S) v
def u141_32 : W27 → FV := fun v => W27.rec (motive := fun _ => FV) (fun v0 v2 v3 v4 v5 v6 v7 v8 v9 v10 v11 v12 v13 v14 v15 v28 v31 v55 v58 v65 v79 v87 v91 v92 v96 v114 v129 => v92) v
def u141_33 (C : CU) : CdU W27 := fun v S κ => W27.rec (motive := fun _ => RU) (fun v0 v2 v3 v4 v5 v6 v7 v8 v9 v10 v11 v12 v13 v14 v15 v28 v31 v55 v58 v65 v79 v87 v91 v92 v96 v114 v129 => 
 κ .normal (.mk v0 (.i .u64 0) (.n 5) v4 v5 v6 v7 v8 v9 v10 v11 v12 v13 v14 v15 v28 v31 v55 v58 v65 v79 v87 v91 v92 v96 v114 v129) S) v
def u141_34 (C : CU) : CdU W27 := fun v S κ => W27.rec (motive := fun _ => RU) (fun v0 v2 v3 v4 v5 v6 v7 v8 v9 v10 v11 v12 v13 v14 v15 v28 v31 v55 v58 v65 v79 v87 v91 v92 v96 v114 v129 => 
 κ .normal (.mk v0 v2 v3 v4 v5 v6 v7 v8 v9 v10 .nl v12 v13 v14 v15 v28 v31 v55 v58 v65 v79 v87 v91 v92 v96 v114 v129) S) v
def u141_35 (C : CU) : CdU W27 := fun v S κ => W27.rec (motive := fun _ => RU) (fun v0 v2 v3 v4 v5 v6 v7 v8 v9 v10 v11 v12 v13 v14 v15 v28 v31 v55 v58 v65 v79 v87 v91 v92 v96 v114 v129 => 
 κ .normal (.mk v0 v2 v3 v4 v5 v6 v7 v8 v9 v10 v11 (.n 0) v13 v14 v15 v28 v31 v55 v58 v65 v79 v87 v91 v92 v96 v114 v129) S) v
def u141_36 (C : CU) : CdU W27 := fun v S κ => W27.rec (motive := fun _ => RU) (fun v0 v2 v3 v4 v5 v6 v7 v8 v9 v10 v11 v12 v13 v14 v15 v28 v31 v55 v58 v65 v79 v87 v91 v92 v96 v114 v129 => 
 uLen false v5 S fun v130 S =>
 uCmp ltN .lss v12 v130 S fun v131 S =>
 κ .normal (.mk v0 v2 v3 v4 v5 v6 v7 v8 v9 v10 v11 v12 v13 v14 v15 v28 v31 v55 v58 v65 v79 v87 v91 v92 v131 v114 v129) S) v
def u141_37 : W27 → FV := fun v => W27.rec (motive := fun _ => FV) (fun v0 v2 v3 v4 v5 v6 v7 v8 v9 v10 v11 v12 v13 v14 v15 v28 v31 v55 v58 v65 v79 v87 v91 v92 v96 v114 v129 => v96) v
def u141_38 (C : CU) : CdU W27 := fun v S κ => W27.rec (motive := fun _ => RU) (fun v0 v2 v3 v4 v5 v6 v7 v8 v9 v10 v11 v12 v13 v14 v15 v28 v31 v55 v58 v65 v79 v87 v91 v92 v96 v114 v129 => 
 uLitF 191 1 [(.i .u32 0)] 1 [(0, 1, (.i .u32 10))] S fun v130 S =>
 uIad 1 v5 v12 S fun v131 S =>
 uLd none v131 S fun v132 S =>
 uCvI .u64 v132 S fun v133 S =>
 uLd none v131 S fun u _ => veqU u v132
 (uCall C 148 [v11, v130] S fun v134 S =>
 uLd none v131 S fun u _ => veqU u v132
 (uCall C 144 [v133] S fun v135 S =>
 uCall C 152 [v134, v135] S fun v136 S =>
 κ .normal (.mk v0 v2 v3 v4 v5 v6 v7 v8 v9 v10 v136 v12 v13 v14 v15 v28 v31 v55 v58 v65 v79 v87 v91 v92 v96 v114 v129) S))) v
def u141_39 (C : CU) : CdU W27 := fun v S κ => W27.rec (motive := fun _ => RU) (fun v0 v2 v3 v4 v5 v6 v7 v8 v9 v10 v11 v12 v13 v14 v15 v28 v31 v55 v58 v65 v79 v87 v91 v92 v96 v114 v129 => 
 uAdd v12 (.n 1) S fun v130 S =>
 κ .normal (.mk v0 v2 v3 v4 v5 v6 v7 v8 v9 v10 v11 v130 v13 v14 v15 v28 v31 v55 v58 v65 v79 v87 v91 v92 v96 v114 v129) S) v
def u141_40 (C : CU) (n : Nat) : CdU W27 := seqU (seqU (u141_36 C) (condU u141_37 (skipU) (exitU 2))) (seqU (blockU 3 (u141_38 C)) (u141_39 C))
def u141_41 (C : CU) : CdU W27 := fun v S κ => W27.rec (motive := fun _ => RU) (fun v0 v2 v3 v4 v5 v6 v7 v8 v9 v10 v11 v12 v13 v14 v15 v28 v31 v55 v58 v65 v79 v87 v91 v92 v96 v114 v129 => 
 uLitF 191 1 [(.i .u32 0)] 1 [(0, 1, (.i .u32 1))] S fun v130 S =>
 κ .normal (.mk v0 v2 v3 v4 v5 v6 v7 v8 v9 v10 v11 v12 v130 v14 v15 v28 v31 v55 v58 v65 v79 v87 v91 v92 v96 v114 v129) S) v
def u141_42 (C : CU) : CdU W27 := fun v S κ => W27.rec (motive := fun _ => RU) (fun v0 v2 v3 v4 v5 v6 v7 v8 v9 v10 v11 v12 v13 v14 v15 v28 v31 v55 v58 v65 v79 v87 v91 v92 v96 v114 v129 => 
 uSub v8 v7 S fun v130 S =>
 κ .normal (.mk v0 v2 v3 v4 v5 v6 v7 v130 v9 v10 v11 v12 v13 v14 v15 v28 v31 v55 v58 v65 v79 v87 v91 v92 v96 v114 v129) S) v
def u141_43 (C : CU) : CdU W27 := fun v S κ => W27.rec (motive := fun _ => RU) (fun v0 v2 v3 v4 v5 v6 v7 v8 v9 v10 v11 v12 v13 v14 v15 v28 v31 v55 v58 v65 v79 v87 v91 v92 v96 v114 v129 => 
 uCmp (fun a b => Nat.ble b a) .geq v8 (.n 0) S fun v130 S =>
 κ .normal (.mk v0 v2 v3 v4 v5 v6 v7 v8 v9 v10 v11 v12 v13 v14 v15 v28 v31 v55 v58 v65 v79 v87 v91 v92 v96 v130 v129) S) v
def u141_44 : W27 → FV := fun v => W27.rec (motive := fun _ => FV) (fun v0 v2 v3 v4 v5 v6 v7 v8 v9 v10 v11 v12 v13 v14 v15 v28 v31 v55 v58 v65 v79 v87 v91 v92 v96 v114 v129 => v114) v
def u141_45 (C : CU) : CdU W27 := fun v S κ => W27.rec (motive := fun _ => RU) (fun v0 v2 v3 v4 v5 v6 v7 v8 v9 v10 v11 v12 v13 v14 v15 v28 v31 v55 v58 v65 v79 v87 v91 v92 v96 v114 v129 => 
 uCall C 149 [v8] S fun v130 S =>
 uCall C 148 [v11, v130] S fun v131 S =>
 κ .normal (.mk v0 v2 v3 v4 v5 v6 v7 v8 v9 v10 v131 v12 v13 v14 v15 v28 v31 v55 v58 v65 v79 v87 v91 v92 v96 v114 v129) S) v
def u141_46 (C : CU) : CdU W27 := fun v S κ => W27.rec (motive := fun _ => RU) (fun v0 v2 v3 v4 v5 v6 v7 v8 v9 v10 v11 v12 v13 v14 v15 v28 v31 v55 v58 v65 v79 v87 v91 v92 v96 v114 v129 => 
 uUn .neg v8 S fun v130 S =>
 uCall C 149 [v130] S fun v131 S =>
 κ .normal (.mk v0 v2 v3 v4 v5 v6 v7 v8 v9 v10 v11 v12 v131 v14 v15 v28 v31 v55 v58 v65 v79 v87 v91 v92 v96 v114 v129) S) v
def u141_47 (C : CU) : CdU W27 := fun v S κ => W27.rec (motive := fun _ => RU) (fun v0 v2 v3 v4 v5 v6 v7 v8 v9 v10 v11 v12 v13 v14 v15 v28 v31 v55 v58 v65 v79 v87 v91 v92 v96 v114 v129 => 
 uCall C 159 [v11, v13] S fun v130 S =>
 uExt 0 v130 S fun v131 S =>
 uExt 1 v130 S fun v132 S =>
 κ .normal (.mk v0 v2 v3 v4 v5 v6 v7 v8 v9 v10 v11 v12 v13 v131 v132 v28 v31 v55 v58 v65 v79 v87 v91 v92 v96 v114 v129) S) v
def u141_48 (C : CU) : CdU W27 := fun v S κ => W27.rec (motive := fun _ => RU) (fun v0 v2 v3 v4 v5 v6 v7 v8 v9 v10 v11 v12 v13 v14 v15 v28 v31 v55 v58 v65 v79 v87 v91 v92 v96 v114 v129 => 
 uNot v15 S fun v130 S =>
 κ .normal (.mk v0 v2 v3 v4 v5 v6 v7 v8 v9 v10 v11 v12 v13 v14 v15 v28 v31 v55 v58 v65 v79 v87 v91 v92 v96 v114 v130) S) v
def u141_49 : W27 → FV := fun v => W27.rec (motive := fun _ => FV) (fun v0 v2 v3 v4 v5 v6 v7 v8 v9 v10 v11 v12 v13 v14 v15 v28 v31 v55 v58 v65 v79 v87 v91 v92 v96 v114 v129 => v129) v
def u141_50 (C : CU) : CdU W27 := fun v S κ => W27.rec (motive := fun _ => RU) (fun v0 v2 v3 v4 v5 v6 v7 v8 v9 v10 v11 v12 v13 v14 v15 v28 v31 v55 v58 v65 v79 v87 v91 v92 v96 v114 v129 => 
 κ .normal (.mk v0 (.i .u64 0) (.n 5) v4 v5 v6 v7 v8 v9 v10 v11 v12 v13 v14 v15 v28 v31 v55 v58 v65 v79 v87 v91 v92 v96 v114 v129) S) v
def u141_51 (C : CU) : CdU W27 := fun v S κ => W27.rec (motive := fun _ => RU) (fun v0 v2 v3 v4 v5 v6 v7 v8 v9 v10 v11 v12 v13 v14 v15 v28 v31 v55 v58 v65 v79 v87 v91 v92 v96 v114 v129 => 
 uSlow .or v4 v14 S fun v130 S =>
 κ .normal (.mk v0 v130 (.n 0) v4 v5 v6 v7 v8 v9 v10 v11 v12 v13 v14 v15 v28 v31 v55 v58 v65 v79 v87 v91 v92 v96 v114 v129) S) v
def u141r (v : W27) (S : FAW) : RU := W27.rec (motive := fun _ => RU) (fun v0 v2 v3 v4 v5 v6 v7 v8 v9 v10 v11 v12 v13 v14 v15 v28 v31 v55 v58 v65 v79 v87 v91 v92 v96 v114 v129 => .ok (.u [v2, v3]) S) v
def u141 : Fu := fun C n args S => (seqU (u141_0 C) (seqU (u141_1 C) (seqU (seqU (u141_2 C) (condU u141_3 (seqU (seqU (u141_4 C) (condU u141_5 (u141_6 C) (skipU))) (u141_7 C)) (skipU))) (seqU (u141_8 C) (seqU (u141_9 C) (seqU (blockU 0 (loopU n (u141_20 C n))) (seqU (seqU (u141_21 C) (condU u141_22 (seqU (u141_23 C) (retU)) (skipU))) (seqU (u141_24 C) (seqU (seqU (u141_25 C) (condU u141_26 (seqU (u141_27 C) (retU)) (skipU))) (seqU (seqU (u141_28 C) (condU u141_29 (seqU (u141_30 C) (retU)) (skipU))) (seqU (seqU (u141_31 C) (condU u141_32 (seqU (u141_33 C) (retU)) (skipU))) (seqU (u141_34 C) (seqU (seqU (u141_35 C) (blockU 2 (loopU n (u141_40 C n)))) (seqU (u141_41 C) (seqU (u141_42 C) (seqU (seqU (u141_43 C) (condU u141_44 (u141_45 C) (u141_46 C))) (seqU (u141_47 C) (seqU (seqU (u141_48 C) (condU u141_49 (seqU (u141_50 C) (retU)) (skipU))) (seqU (u141_51 C) (retU))))))))))))))))))) : CdU W27) (.mk (argU args 0) (argU args 2) (argU args 3) (argU args 4) (argU args 5) (argU args 6) (argU args 7) (argU args 8) (argU args 9) (argU args 10) (argU args 11) (argU args 12) (argU args 13) (argU args 14) (argU args 15) (argU args 28) (argU args 31) (argU args 55) (argU args 58) (argU args 65) (argU args 79) (argU args 87) (argU args 91) (argU args 92) (argU args 96) (argU args 114) (argU args 129)) S fun o v S => exU o (u141r v S) (fun _ => .no) (u141r v S)
/-! (*assayer/assayerref5.lexer).behind -/
def u142_0 (C : CU) : CdU W7 := fun v S κ => W7.rec (motive := fun _ => RU) (fun v0 v1 v2 v4 v6 v8 v47 => 
 uBox 137 5 v1 S fun v48 S =>
 uNewF 137 5 [(.n 0), (.s []), (.n 0), (.i .u64 0), (.n 0)] S fun v49 S =>
 κ .normal (.mk v0 v1 v2 v48 v49 v8 v47) S) v
def u142_1 (C : CU) : CdU W7 := fun v S κ => W7.rec (motive := fun _ => RU) (fun v0 v1 v2 v4 v6 v8 v47 => 
 uEq true .neq v2 (.n 0) S fun v48 S =>
 κ .normal (.mk v0 v1 v2 v4 v6 v48 v47) S) v
def u142_2 : W7 → FV := fun v => W7.rec (motive := fun _ => FV) (fun v0 v1 v2 v4 v6 v8 v47 => v8) v
def u142_3 (C : CU) : CdU W7 := fun v S κ => W7.rec (motive := fun _ => RU) (fun v0 v1 v2 v4 v6 v8 v47 => 
 uFad 4 v4 S fun v48 S =>
 uLd none v48 S fun v49 S =>
 uCall C 120 [v0, v2, v49] S fun v50 S =>
 κ .normal (.mk v0 v1 v2 v4 v6 v8 v47) S) v
def u142_4 (C : CU) : CdU W7 := fun v S κ => W7.rec (motive := fun _ => RU) (fun v0 v1 v2 v4 v6 v8 v47 => 
 uGet 1 v0 S fun v50 S =>
 uGet 0 v0 S fun v53 S =>
 uLen true v53 S fun v54 S =>
 uCmp ltN .lss v50 v54 S fun v55 S =>
 eT v55 fun b => cn b
 (uGet 0 v0 S fun v58 S =>
 uGet 1 v0 S fun v61 S =>
 uIdxS v58 v61 S fun v62 S =>
 uCall C 39 [v62] S fun v63 S =>
 eT v63 fun b => cn b
 (κ .normal (.mk v0 v1 v2 v4 v6 v8 (.t true)) S)
 (uGet 0 v0 S fun v66 S =>
 uGet 1 v0 S fun v69 S =>
 uIdxS v66 v69 S fun v70 S =>
 uEq false .eql v70 (.b 46) S fun v71 S =>
 κ .normal (.mk v0 v1 v2 v4 v6 v8 v71) S))
 (κ .normal (.mk v0 v1 v2 v4 v6 v8 (.t false)) S)) v
def u142_5 : W7 → FV := fun v => W7.rec (motive := fun _ => FV) (fun v0 v1 v2 v4 v6 v8 v47 => v47) v
def u142_6 (C : CU) : CdU W7 := fun v S κ => W7.rec (motive := fun _ => RU) (fun v0 v1 v2 v4 v6 v8 v47 => 
 uGet 1 v0 S fun v50 S =>
 uCall C 120 [v0, (.n 2), v50] S fun v51 S =>
 κ .normal (.mk v0 v1 v2 v4 v6 v8 v47) S) v
def u142_7 (C : CU) : CdU W7 := fun v S κ => W7.rec (motive := fun _ => RU) (fun v0 v1 v2 v4 v6 v8 v47 => 
 uLd (some 5) v4 S fun v48 S =>
 uSt 5 v6 v48 S fun v49 S =>
 κ .normal (.mk v0 v1 v2 v4 v6 v8 v47) S) v
def u142r (v : W7) (S : FAW) : RU := W7.rec (motive := fun _ => RU) (fun v0 v1 v2 v4 v6 v8 v47 => uLd (some 5) v6 S fun r6 _ => .ok r6 S) v
def u142 : Fu := fun C n args S => (seqU (u142_0 C) (seqU (seqU (u142_1 C) (condU u142_2 (u142_3 C) (seqU (u142_4 C) (condU u142_5 (u142_6 C) (skipU))))) (seqU (u142_7 C) (retU))) : CdU W7) (.mk (argU args 0) (argU args 1) (argU args 2) (argU args 4) (argU args 6) (argU args 8) (argU args 47)) S fun o v S => exU o (u142r v S) (fun _ => .no) (u142r v S)
/-! (*assayer/assayerref5.parser).begins -/
def u143_0 (C : CU) : CdU W6 := fun v S κ => W6.rec (motive := fun _ => RU) (fun v0 v2 v3 v7 v8 v12 => 
 κ .normal (.mk v0 (.t false) v3 v7 v8 v12) S) v
def u143_1 (C : CU) : CdU W6 := fun v S κ => W6.rec (motive := fun _ => RU) (fun v0 v2 v3 v7 v8 v12 => 
 uCall C 64 [v0] S fun v13 S =>
 uNewF 137 5 [(.n 0), (.s []), (.n 0), (.i .u64 0), (.n 0)] S fun v14 S =>
 uSt 5 v14 v13 S fun v15 S =>
 κ .normal (.mk v0 v2 v14 v7 v8 v12) S) v
def u143_2 (C : CU) : CdU W6 := fun v S κ => W6.rec (motive := fun _ => RU) (fun v0 v2 v3 v7 v8 v12 => 
 uFad 0 v3 S fun v13 S =>
 uLd none v13 S fun v14 S =>
 κ .normal (.mk v0 v2 v3 v14 v8 v12) S) v
def u143_3 (C : CU) : CdU W6 := fun v S κ => W6.rec (motive := fun _ => RU) (fun v0 v2 v3 v7 v8 v12 => 
 uEq false .eql v7 (.n 2) S fun v13 S =>
 κ .normal (.mk v0 v2 v3 v7 v13 v12) S) v
def u143_4 : W6 → FV := fun v => W6.rec (motive := fun _ => FV) (fun v0 v2 v3 v7 v8 v12 => v8) v
def u143_5 (C : CU) : CdU W6 := fun v S κ => W6.rec (motive := fun _ => RU) (fun v0 v2 v3 v7 v8 v12 => 
 uEq false .eql v7 (.n 3) S fun v13 S =>
 κ .normal (.mk v0 v2 v3 v7 v13 v12) S) v
def u143_6 : W6 → FV := fun v => W6.rec (motive := fun _ => FV) (fun v0 v2 v3 v7 v8 v12 => v8) v
def u143_7 (C : CU) : CdU W6 := fun v S κ => W6.rec (motive := fun _ => RU) (fun v0 v2 v3 v7 v8 v12 => 
 uEq false .eql v7 (.n 4) S fun v13 S =>
 κ .normal (.mk v0 v2 v3 v7 v13 v12) S) v
def u143_8 : W6 → FV := fun v => W6.rec (motive := fun _ => FV) (fun v0 v2 v3 v7 v8 v12 => v8) v
def u143_9 (C : CU) : CdU W6 := fun v S κ => W6.rec (motive := fun _ => RU) (fun v0 v2 v3 v7 v8 v12 => 
 κ .normal (.mk v0 (.t true) v3 v7 v8 v12) S) v
def u143_10 (C : CU) : CdU W6 := fun v S κ => W6.rec (motive := fun _ => RU) (fun v0 v2 v3 v7 v8 v12 => 
 uEq false .eql v7 (.n 1) S fun v13 S =>
 κ .normal (.mk v0 v2 v3 v7 v8 v13) S) v
def u143_11 : W6 → FV := fun v => W6.rec (motive := fun _ => FV) (fun v0 v2 v3 v7 v8 v12 => v12) v
def u143_12 (C : CU) : CdU W6 := fun v S κ => W6.rec (motive := fun _ => RU) (fun v0 v2 v3 v7 v8 v12 => 
 uFad 1 v3 S fun v13 S =>
 uLd none v13 S fun v14 S =>
 uEq false .eql v14 (.s [116, 114, 117, 101]) S fun v15 S =>
 eT v15 fun b => cn b
 (κ .normal (.mk v0 (.t true) v3 v7 v8 v12) S)
 (uFad 1 v3 S fun v16 S =>
 uLd none v16 S fun v17 S =>
 uEq false .eql v17 (.s [102, 97, 108, 115, 101]) S fun v18 S =>
 eT v18 fun b => cn b
 (κ .normal (.mk v0 (.t true) v3 v7 v8 v12) S)
 (uFad 1 v3 S fun v19 S =>
 uLd none v19 S fun v20 S =>
 uCall C 124 [v20] S fun v21 S =>
 κ .normal (.mk v0 v21 v3 v7 v8 v12) S))) v
def u143_13 (C : CU) : CdU W6 := fun v S κ => W6.rec (motive := fun _ => RU) (fun v0 v2 v3 v7 v8 v12 => 
 uCall C 123 [v0, (.s [91])] S fun v13 S =>
 eT v13 fun b => cn b
 (κ .normal (.mk v0 (.t true) v3 v7 v8 v12) S)
 (uCall C 123 [v0, (.s [123])] S fun v14 S =>
 κ .normal (.mk v0 v14 v3 v7 v8 v12) S)) v
def u143r (v : W6) (S : FAW) : RU := W6.rec (motive := fun _ => RU) (fun v0 v2 v3 v7 v8 v12 => .ok v2 S) v
def u143 : Fu := fun C n args S => (seqU (u143_0 C) (seqU (u143_1 C) (seqU (seqU (u143_2 C) (blockU 0 (seqU (seqU (u143_3 C) (condU u143_4 (skipU) (seqU (u143_5 C) (condU u143_6 (skipU) (u143_7 C))))) (condU u143_8 (seqU (u143_9 C) (retU)) (seqU (u143_10 C) (condU u143_11 (seqU (u143_12 C) (retU)) (skipU))))))) (seqU (u143_13 C) (retU)))) : CdU W6) (.mk (argU args 0) (argU args 2) (argU args 3) (argU args 7) (argU args 8) (argU args 12)) S fun o v S => exU o (u143r v S) (fun _ => .no) (u143r v S)
/-! assayer/assayerref1.Of -/
def u144_0 (C : CU) : CdU W2 := fun v S κ => W2.rec (motive := fun _ => RU) (fun v0 v2 => 
 κ .normal (.mk v0 .nl) S) v
def u144_1 (C : CU) : CdU W2 := fun v S κ => W2.rec (motive := fun _ => RU) (fun v0 v2 => 
 uCvI .u32 v0 S fun v3 S =>
 uSlow .shr v0 (.i .u64 32) S fun v4 S =>
 uCvI .u32 v4 S fun v5 S =>
 uLitF 191 1 [(.i .u32 0)] 2 [(0, 1, v3), (1, 1, v5)] S fun v6 S =>
 uCall C 160 [v6] S fun v7 S =>
 κ .normal (.mk v0 v7) S) v
def u144r (v : W2) (S : FAW) : RU := W2.rec (motive := fun _ => RU) (fun v0 v2 => .ok v2 S) v
def u144 : Fu := fun C n args S => (seqU (u144_0 C) (seqU (u144_1 C) (retU)) : CdU W2) (.mk (argU args 0) (argU args 2)) S fun o v S => exU o (u144r v S) (fun _ => .no) (u144r v S)
/-! assayer/assayerref1.Shl -/
def u145_0 (C : CU) : CdU W7 := fun v S κ => W7.rec (motive := fun _ => RU) (fun v0 v1 v4 v5 v6 v19 v31 => 
 κ .normal (.mk v0 v1 .nl v5 v6 v19 v31) S) v
def u145_1 (C : CU) : CdU W7 := fun v S κ => W7.rec (motive := fun _ => RU) (fun v0 v1 v4 v5 v6 v19 v31 => 
 uLen false v0 S fun v32 S =>
 uMM true [v1, (.n 0)] S fun v33 S =>
 uQuo true .quo v33 (.n 32) S fun v34 S =>
 uAdd v32 v34 S fun v35 S =>
 uAdd v35 (.n 1) S fun v36 S =>
 uMksF 191 1 4 [(.i .u32 0)] v36 v36 S fun v37 S =>
 κ .normal (.mk v0 v1 v4 v37 v6 v19 v31) S) v
def u145_2 (C : CU) : CdU W7 := fun v S κ => W7.rec (motive := fun _ => RU) (fun v0 v1 v4 v5 v6 v19 v31 => 
 κ .normal (.mk v0 v1 v4 v5 (.n 0) v19 v31) S) v
def u145_3 (C : CU) : CdU W7 := fun v S κ => W7.rec (motive := fun _ => RU) (fun v0 v1 v4 v5 v6 v19 v31 => 
 uLen false v0 S fun v32 S =>
 uMul (.n 32) v32 S fun v33 S =>
 uCmp ltN .lss v6 v33 S fun v34 S =>
 κ .normal (.mk v0 v1 v4 v5 v6 v34 v31) S) v
def u145_4 : W7 → FV := fun v => W7.rec (motive := fun _ => FV) (fun v0 v1 v4 v5 v6 v19 v31 => v19) v
def u145_5 (C : CU) : CdU W7 := fun v S κ => W7.rec (motive := fun _ => RU) (fun v0 v1 v4 v5 v6 v19 v31 => 
 uCall C 161 [v0, v6] S fun v32 S =>
 uEq false .eql v32 (.i .u64 1) S fun v33 S =>
 eT v33 fun b => cn b
 (uAdd v6 v1 S fun v34 S =>
 uCmp (fun a b => Nat.ble b a) .geq v34 (.n 0) S fun v35 S =>
 κ .normal (.mk v0 v1 v4 v5 v6 v19 v35) S)
 (κ .normal (.mk v0 v1 v4 v5 v6 v19 (.t false)) S)) v
def u145_6 : W7 → FV := fun v => W7.rec (motive := fun _ => FV) (fun v0 v1 v4 v5 v6 v19 v31 => v31) v
def u145_7 (C : CU) : CdU W7 := fun v S κ => W7.rec (motive := fun _ => RU) (fun v0 v1 v4 v5 v6 v19 v31 => 
 uAdd v6 v1 S fun v32 S =>
 uQuo true .quo v32 (.n 32) S fun v33 S =>
 uAdd v6 v1 S fun v34 S =>
 uQuo true .quo v34 (.n 32) S fun v35 S =>
 uIad 1 v5 v35 S fun v36 S =>
 uLd none v36 S fun v37 S =>
 uAdd v6 v1 S fun v38 S =>
 uQuo false .rem v38 (.n 32) S fun v39 S =>
 uSlow .shl (.i .u32 1) v39 S fun v40 S =>
 uSlow .or v37 v40 S fun v41 S =>
 uIad 1 v5 v33 S fun v42 S =>
 uSt 1 v42 v41 S fun v43 S =>
 κ .normal (.mk v0 v1 v4 v5 v6 v19 v31) S) v
def u145_8 (C : CU) : CdU W7 := fun v S κ => W7.rec (motive := fun _ => RU) (fun v0 v1 v4 v5 v6 v19 v31 => 
 uAdd v6 (.n 1) S fun v32 S =>
 κ .normal (.mk v0 v1 v4 v5 v32 v19 v31) S) v
def u145_9 (C : CU) (n : Nat) : CdU W7 := seqU (seqU (u145_3 C) (condU u145_4 (skipU) (exitU 0))) (seqU (blockU 1 (seqU (u145_5 C) (condU u145_6 (u145_7 C) (skipU)))) (u145_8 C))
def u145_10 (C : CU) : CdU W7 := fun v S κ => W7.rec (motive := fun _ => RU) (fun v0 v1 v4 v5 v6 v19 v31 => 
 uCall C 160 [v5] S fun v32 S =>
 κ .normal (.mk v0 v1 v32 v5 v6 v19 v31) S) v
def u145r (v : W7) (S : FAW) : RU := W7.rec (motive := fun _ => RU) (fun v0 v1 v4 v5 v6 v19 v31 => .ok v4 S) v
def u145 : Fu := fun C n args S => (seqU (u145_0 C) (seqU (u145_1 C) (seqU (seqU (u145_2 C) (blockU 0 (loopU n (u145_9 C n)))) (seqU (u145_10 C) (retU)))) : CdU W7) (.mk (argU args 0) (argU args 1) (argU args 4) (argU args 5) (argU args 6) (argU args 19) (argU args 31)) S fun o v S => exU o (u145r v S) (fun _ => .no) (u145r v S)
/-! assayer/assayerref1.Bits -/
def u146_0 (C : CU) : CdU W5 := fun v S κ => W5.rec (motive := fun _ => RU) (fun v0 v2 v3 v4 v18 => 
 κ .normal (.mk v0 (.n 0) v3 v4 v18) S) v
def u146_1 (C : CU) : CdU W5 := fun v S κ => W5.rec (motive := fun _ => RU) (fun v0 v2 v3 v4 v18 => 
 uCall C 160 [v0] S fun v19 S =>
 κ .normal (.mk v0 v2 v19 v4 v18) S) v
def u146_2 (C : CU) : CdU W5 := fun v S κ => W5.rec (motive := fun _ => RU) (fun v0 v2 v3 v4 v18 => 
 uLen false v3 S fun v19 S =>
 uMul (.n 32) v19 S fun v20 S =>
 κ .normal (.mk v0 v2 v3 v20 v18) S) v
def u146_3 (C : CU) : CdU W5 := fun v S κ => W5.rec (motive := fun _ => RU) (fun v0 v2 v3 v4 v18 => 
 uCmp (fun a b => ltN b a) .gtr v4 (.n 0) S fun v19 S =>
 eT v19 fun b => cn b
 (uSub v4 (.n 1) S fun v20 S =>
 uCall C 161 [v3, v20] S fun v21 S =>
 uEq false .eql v21 (.i .u64 0) S fun v22 S =>
 κ .normal (.mk v0 v2 v3 v4 v22) S)
 (κ .normal (.mk v0 v2 v3 v4 (.t false)) S)) v
def u146_4 : W5 → FV := fun v => W5.rec (motive := fun _ => FV) (fun v0 v2 v3 v4 v18 => v18) v
def u146_5 (C : CU) : CdU W5 := fun v S κ => W5.rec (motive := fun _ => RU) (fun v0 v2 v3 v4 v18 => 
 uSub v4 (.n 1) S fun v19 S =>
 κ .normal (.mk v0 v2 v3 v19 v18) S) v
def u146_6 (C : CU) (n : Nat) : CdU W5 := seqU (seqU (u146_3 C) (condU u146_4 (skipU) (exitU 0))) (blockU 1 (u146_5 C))
def u146_7 (C : CU) : CdU W5 := fun v S κ => W5.rec (motive := fun _ => RU) (fun v0 v2 v3 v4 v18 => 
 κ .normal (.mk v0 v4 v3 v4 v18) S) v
def u146r (v : W5) (S : FAW) : RU := W5.rec (motive := fun _ => RU) (fun v0 v2 v3 v4 v18 => .ok v2 S) v
def u146 : Fu := fun C n args S => (seqU (u146_0 C) (seqU (u146_1 C) (seqU (u146_2 C) (seqU (blockU 0 (loopU n (u146_6 C n))) (seqU (u146_7 C) (retU))))) : CdU W5) (.mk (argU args 0) (argU args 2) (argU args 3) (argU args 4) (argU args 18)) S fun o v S => exU o (u146r v S) (fun _ => .no) (u146r v S)
/-! assayer/assayerref1.Mul -/
def u148_0 (C : CU) : CdU W9 := fun v S κ => W9.rec (motive := fun _ => RU) (fun v0 v1 v4 v5 v6 v7 v8 v19 v25 => 
 κ .normal (.mk v0 v1 .nl v5 v6 v7 v8 v19 v25) S) v
def u148_1 (C : CU) : CdU W9 := fun v S κ => W9.rec (motive := fun _ => RU) (fun v0 v1 v4 v5 v6 v7 v8 v19 v25 => 
 uLen false v0 S fun v26 S =>
 uLen false v1 S fun v27 S =>
 uAdd v26 v27 S fun v28 S =>
 uAdd v28 (.n 1) S fun v29 S =>
 uMksF 191 1 4 [(.i .u32 0)] v29 v29 S fun v30 S =>
 κ .normal (.mk v0 v1 v4 v30 v6 v7 v8 v19 v25) S) v
def u148_2 (C : CU) : CdU W9 := fun v S κ => W9.rec (motive := fun _ => RU) (fun v0 v1 v4 v5 v6 v7 v8 v19 v25 => 
 κ .normal (.mk v0 v1 v4 v5 (.n 0) v7 v8 v19 v25) S) v
def u148_3 (C : CU) : CdU W9 := fun v S κ => W9.rec (motive := fun _ => RU) (fun v0 v1 v4 v5 v6 v7 v8 v19 v25 => 
 uLen false v0 S fun v26 S =>
 uCmp ltN .lss v6 v26 S fun v27 S =>
 κ .normal (.mk v0 v1 v4 v5 v6 v7 v8 v27 v25) S) v
def u148_4 : W9 → FV := fun v => W9.rec (motive := fun _ => FV) (fun v0 v1 v4 v5 v6 v7 v8 v19 v25 => v19) v
def u148_5 (C : CU) : CdU W9 := fun v S κ => W9.rec (motive := fun _ => RU) (fun v0 v1 v4 v5 v6 v7 v8 v19 v25 => 
 κ .normal (.mk v0 v1 v4 v5 v6 (.i .u64 0) v8 v19 v25) S) v
def u148_6 (C : CU) : CdU W9 := fun v S κ => W9.rec (motive := fun _ => RU) (fun v0 v1 v4 v5 v6 v7 v8 v19 v25 => 
 κ .normal (.mk v0 v1 v4 v5 v6 v7 (.n 0) v19 v25) S) v
def u148_7 (C : CU) : CdU W9 := fun v S κ => W9.rec (motive := fun _ => RU) (fun v0 v1 v4 v5 v6 v7 v8 v19 v25 => 
 uLen false v1 S fun v26 S =>
 uCmp ltN .lss v8 v26 S fun v27 S =>
 κ .normal (.mk v0 v1 v4 v5 v6 v7 v8 v19 v27) S) v
def u148_8 : W9 → FV := fun v => W9.rec (motive := fun _ => FV) (fun v0 v1 v4 v5 v6 v7 v8 v19 v25 => v25) v
def u148_9 (C : CU) : CdU W9 := fun v S κ => W9.rec (motive := fun _ => RU) (fun v0 v1 v4 v5 v6 v7 v8 v19 v25 => 
 uAdd v6 v8 S fun v26 S =>
 uIad 1 v5 v26 S fun v27 S =>
 uLd none v27 S fun v28 S =>
 uCvI .u64 v28 S fun v29 S =>
 uAdd v7 v29 S fun v30 S =>
 uIad 1 v0 v6 S fun v31 S =>
 uLd none v31 S fun v32 S =>
 uCvI .u64 v32 S fun v33 S =>
 uIad 1 v1 v8 S fun v34 S =>
 uLd none v34 S fun v35 S =>
 uCvI .u64 v35 S fun v36 S =>
 uMul v33 v36 S fun v37 S =>
 uAdd v30 v37 S fun v38 S =>
 κ .normal (.mk v0 v1 v4 v5 v6 v38 v8 v19 v25) S) v
def u148_10 (C : CU) : CdU W9 := fun v S κ => W9.rec (motive := fun _ => RU) (fun v0 v1 v4 v5 v6 v7 v8 v19 v25 => 
 uAdd v6 v8 S fun v26 S =>
 uCvI .u32 v7 S fun v27 S =>
 uIad 1 v5 v26 S fun v28 S =>
 uSt 1 v28 v27 S fun v29 S =>
 κ .normal (.mk v0 v1 v4 v5 v6 v7 v8 v19 v25) S) v
def u148_11 (C : CU) : CdU W9 := fun v S κ => W9.rec (motive := fun _ => RU) (fun v0 v1 v4 v5 v6 v7 v8 v19 v25 => 
 uSlow .shr v7 (.i .u64 32) S fun v26 S =>
 κ .normal (.mk v0 v1 v4 v5 v6 v26 v8 v19 v25) S) v
def u148_12 (C : CU) : CdU W9 := fun v S κ => W9.rec (motive := fun _ => RU) (fun v0 v1 v4 v5 v6 v7 v8 v19 v25 => 
 uAdd v8 (.n 1) S fun v26 S =>
 κ .normal (.mk v0 v1 v4 v5 v6 v7 v26 v19 v25) S) v
def u148_13 (C : CU) (n : Nat) : CdU W9 := seqU (seqU (u148_7 C) (condU u148_8 (skipU) (exitU 2))) (seqU (blockU 3 (seqU (u148_9 C) (seqU (u148_10 C) (u148_11 C)))) (u148_12 C))
def u148_14 (C : CU) : CdU W9 := fun v S κ => W9.rec (motive := fun _ => RU) (fun v0 v1 v4 v5 v6 v7 v8 v19 v25 => 
 uLen false v1 S fun v26 S =>
 uAdd v6 v26 S fun v27 S =>
 uCvI .u32 v7 S fun v28 S =>
 uIad 1 v5 v27 S fun v29 S =>
 uSt 1 v29 v28 S fun v30 S =>
 κ .normal (.mk v0 v1 v4 v5 v6 v7 v8 v19 v25) S) v
def u148_15 (C : CU) : CdU W9 := fun v S κ => W9.rec (motive := fun _ => RU) (fun v0 v1 v4 v5 v6 v7 v8 v19 v25 => 
 uAdd v6 (.n 1) S fun v26 S =>
 κ .normal (.mk v0 v1 v4 v5 v26 v7 v8 v19 v25) S) v
def u148_16 (C : CU) (n : Nat) : CdU W9 := seqU (seqU (u148_3 C) (condU u148_4 (skipU) (exitU 0))) (seqU (blockU 1 (seqU (u148_5 C) (seqU (seqU (u148_6 C) (blockU 2 (loopU n (u148_13 C n)))) (u148_14 C)))) (u148_15 C))
def u148_17 (C : CU) : CdU W9 := fun v S κ => W9.rec (motive := fun _ => RU) (fun v0 v1 v4 v5 v6 v7 v8 v19 v25 => 
 uCall C 160 [v5] S fun v26 S =>
 κ .normal (.mk v0 v1 v26 v5 v6 v7 v8 v19 v25) S) v
def u148r (v : W9) (S : FAW) : RU := W9.rec (motive := fun _ => RU) (fun v0 v1 v4 v5 v6 v7 v8 v19 v25 => .ok v4 S) v
def u148 : Fu := fun C n args S => (seqU (u148_0 C) (seqU (u148_1 C) (seqU (seqU (u148_2 C) (blockU 0 (loopU n (u148_16 C n)))) (seqU (u148_17 C) (retU)))) : CdU W9) (.mk (argU args 0) (argU args 1) (argU args 4) (argU args 5) (argU args 6) (argU args 7) (argU args 8) (argU args 19) (argU args 25)) S fun o v S => exU o (u148r v S) (fun _ => .no) (u148r v S)
/-! assayer/assayerref1.Ten -/
def u149_0 (C : CU) : CdU W6 := fun v S κ => W6.rec (motive := fun _ => RU) (fun v0 v2 v3 v4 v7 v10 => 
 κ .normal (.mk v0 .nl v3 v4 v7 v10) S) v
def u149_1 (C : CU) : CdU W6 := fun v S κ => W6.rec (motive := fun _ => RU) (fun v0 v2 v3 v4 v7 v10 => 
 uLitF 191 1 [(.i .u32 0)] 1 [(0, 1, (.i .u32 1))] S fun v11 S =>
 κ .normal (.mk v0 v2 v11 v4 v7 v10) S) v
def u149_2 (C : CU) : CdU W6 := fun v S κ => W6.rec (motive := fun _ => RU) (fun v0 v2 v3 v4 v7 v10 => 
 uCmp ltN .lss v0 (.n 0) S fun v11 S =>
 κ .normal (.mk v0 v2 v3 v4 v11 v10) S) v
def u149_3 : W6 → FV := fun v => W6.rec (motive := fun _ => FV) (fun v0 v2 v3 v4 v7 v10 => v7) v
def u149_4 (C : CU) : CdU W6 := fun v S κ => W6.rec (motive := fun _ => RU) (fun v0 v2 v3 v4 v7 v10 => 
 κ .normal (.mk v0 .nl v3 v4 v7 v10) S) v
def u149_5 (C : CU) : CdU W6 := fun v S κ => W6.rec (motive := fun _ => RU) (fun v0 v2 v3 v4 v7 v10 => 
 κ .normal (.mk v0 v2 v3 (.n 0) v7 v10) S) v
def u149_6 (C : CU) : CdU W6 := fun v S κ => W6.rec (motive := fun _ => RU) (fun v0 v2 v3 v4 v7 v10 => 
 uCmp ltN .lss v4 v0 S fun v11 S =>
 κ .normal (.mk v0 v2 v3 v4 v7 v11) S) v
def u149_7 : W6 → FV := fun v => W6.rec (motive := fun _ => FV) (fun v0 v2 v3 v4 v7 v10 => v10) v
def u149_8 (C : CU) : CdU W6 := fun v S κ => W6.rec (motive := fun _ => RU) (fun v0 v2 v3 v4 v7 v10 => 
 uLitF 191 1 [(.i .u32 0)] 1 [(0, 1, (.i .u32 10))] S fun v11 S =>
 uCall C 148 [v3, v11] S fun v12 S =>
 κ .normal (.mk v0 v2 v12 v4 v7 v10) S) v
def u149_9 (C : CU) : CdU W6 := fun v S κ => W6.rec (motive := fun _ => RU) (fun v0 v2 v3 v4 v7 v10 => 
 uAdd v4 (.n 1) S fun v11 S =>
 κ .normal (.mk v0 v2 v3 v11 v7 v10) S) v
def u149_10 (C : CU) (n : Nat) : CdU W6 := seqU (seqU (u149_6 C) (condU u149_7 (skipU) (exitU 0))) (seqU (blockU 1 (u149_8 C)) (u149_9 C))
def u149_11 (C : CU) : CdU W6 := fun v S κ => W6.rec (motive := fun _ => RU) (fun v0 v2 v3 v4 v7 v10 => 
 κ .normal (.mk v0 v3 v3 v4 v7 v10) S) v
def u149r (v : W6) (S : FAW) : RU := W6.rec (motive := fun _ => RU) (fun v0 v2 v3 v4 v7 v10 => .ok v2 S) v
def u149 : Fu := fun C n args S => (seqU (u149_0 C) (seqU (u149_1 C) (seqU (seqU (u149_2 C) (condU u149_3 (seqU (u149_4 C) (retU)) (skipU))) (seqU (seqU (u149_5 C) (blockU 0 (loopU n (u149_10 C n)))) (seqU (u149_11 C) (retU))))) : CdU W6) (.mk (argU args 0) (argU args 2) (argU args 3) (argU args 4) (argU args 7) (argU args 10)) S fun o v S => exU o (u149r v S) (fun _ => .no) (u149r v S)
/-! assayer/assayerref1.Div -/
def u150_0 (C : CU) : CdU W13 := fun v S κ => W13.rec (motive := fun _ => RU) (fun v0 v1 v4 v5 v6 v7 v8 v9 v10 v11 v15 v25 v42 => 
 κ .normal (.mk v0 v1 .nl .nl (.t false) v7 v8 v9 v10 v11 v15 v25 v42) S) v
def u150_1 (C : CU) : CdU W13 := fun v S κ => W13.rec (motive := fun _ => RU) (fun v0 v1 v4 v5 v6 v7 v8 v9 v10 v11 v15 v25 v42 => 
 uCall C 160 [v1] S fun v43 S =>
 uLen false v43 S fun v44 S =>
 uEq false .eql v44 (.n 0) S fun v45 S =>
 κ .normal (.mk v0 v1 v4 v5 v6 v7 v8 v9 v10 v11 v45 v25 v42) S) v
def u150_2 : W13 → FV := fun v => W13.rec (motive := fun _ => FV) (fun v0 v1 v4 v5 v6 v7 v8 v9 v10 v11 v15 v25 v42 => v15) v
def u150_3 (C : CU) : CdU W13 := fun v S κ => W13.rec (motive := fun _ => RU) (fun v0 v1 v4 v5 v6 v7 v8 v9 v10 v11 v15 v25 v42 => 
 κ .normal (.mk v0 v1 .nl .nl (.t false) v7 v8 v9 v10 v11 v15 v25 v42) S) v
def u150_4 (C : CU) : CdU W13 := fun v S κ => W13.rec (motive := fun _ => RU) (fun v0 v1 v4 v5 v6 v7 v8 v9 v10 v11 v15 v25 v42 => 
 uLen false v0 S fun v43 S =>
 uAdd v43 (.n 1) S fun v44 S =>
 uMksF 191 1 4 [(.i .u32 0)] v44 v44 S fun v45 S =>
 κ .normal (.mk v0 v1 v4 v5 v6 v45 v8 v9 v10 v11 v15 v25 v42) S) v
def u150_5 (C : CU) : CdU W13 := fun v S κ => W13.rec (motive := fun _ => RU) (fun v0 v1 v4 v5 v6 v7 v8 v9 v10 v11 v15 v25 v42 => 
 κ .normal (.mk v0 v1 v4 v5 v6 v7 .nl v9 v10 v11 v15 v25 v42) S) v
def u150_6 (C : CU) : CdU W13 := fun v S κ => W13.rec (motive := fun _ => RU) (fun v0 v1 v4 v5 v6 v7 v8 v9 v10 v11 v15 v25 v42 => 
 uLen false v0 S fun v43 S =>
 uMul (.n 32) v43 S fun v44 S =>
 uSub v44 (.n 1) S fun v45 S =>
 κ .normal (.mk v0 v1 v4 v5 v6 v7 v8 v45 v10 v11 v15 v25 v42) S) v
def u150_7 (C : CU) : CdU W13 := fun v S κ => W13.rec (motive := fun _ => RU) (fun v0 v1 v4 v5 v6 v7 v8 v9 v10 v11 v15 v25 v42 => 
 uCmp (fun a b => Nat.ble b a) .geq v9 (.n 0) S fun v43 S =>
 κ .normal (.mk v0 v1 v4 v5 v6 v7 v8 v9 v10 v11 v15 v43 v42) S) v
def u150_8 : W13 → FV := fun v => W13.rec (motive := fun _ => FV) (fun v0 v1 v4 v5 v6 v7 v8 v9 v10 v11 v15 v25 v42 => v25) v
def u150_9 (C : CU) : CdU W13 := fun v S κ => W13.rec (motive := fun _ => RU) (fun v0 v1 v4 v5 v6 v7 v8 v9 v10 v11 v15 v25 v42 => 
 uCall C 152 [v8, v8] S fun v43 S =>
 uCall C 161 [v0, v9] S fun v44 S =>
 uCall C 144 [v44] S fun v45 S =>
 uCall C 152 [v43, v45] S fun v46 S =>
 κ .normal (.mk v0 v1 v4 v5 v6 v7 v46 v9 v10 v11 v15 v25 v42) S) v
def u150_10 (C : CU) : CdU W13 := fun v S κ => W13.rec (motive := fun _ => RU) (fun v0 v1 v4 v5 v6 v7 v8 v9 v10 v11 v15 v25 v42 => 
 uCall C 162 [v8, v1] S fun v43 S =>
 uExt 0 v43 S fun v44 S =>
 uExt 1 v43 S fun v45 S =>
 κ .normal (.mk v0 v1 v4 v5 v6 v7 v8 v9 v44 v45 v15 v25 v42) S) v
def u150_11 (C : CU) : CdU W13 := fun v S κ => W13.rec (motive := fun _ => RU) (fun v0 v1 v4 v5 v6 v7 v8 v9 v10 v11 v15 v25 v42 => 
 κ .normal (.mk v0 v1 v4 v5 v6 v7 v8 v9 v10 v11 v15 v25 v11) S) v
def u150_12 : W13 → FV := fun v => W13.rec (motive := fun _ => FV) (fun v0 v1 v4 v5 v6 v7 v8 v9 v10 v11 v15 v25 v42 => v42) v
def u150_13 (C : CU) : CdU W13 := fun v S κ => W13.rec (motive := fun _ => RU) (fun v0 v1 v4 v5 v6 v7 v8 v9 v10 v11 v15 v25 v42 => 
 κ .normal (.mk v0 v1 v4 v5 v6 v7 v10 v9 v10 v11 v15 v25 v42) S) v
def u150_14 (C : CU) : CdU W13 := fun v S κ => W13.rec (motive := fun _ => RU) (fun v0 v1 v4 v5 v6 v7 v8 v9 v10 v11 v15 v25 v42 => 
 uQuo true .quo v9 (.n 32) S fun v43 S =>
 uQuo true .quo v9 (.n 32) S fun v44 S =>
 uIad 1 v7 v44 S fun v45 S =>
 uLd none v45 S fun v46 S =>
 uQuo false .rem v9 (.n 32) S fun v47 S =>
 uSlow .shl (.i .u32 1) v47 S fun v48 S =>
 uSlow .or v46 v48 S fun v49 S =>
 uIad 1 v7 v43 S fun v50 S =>
 uSt 1 v50 v49 S fun v51 S =>
 κ .normal (.mk v0 v1 v4 v5 v6 v7 v8 v9 v10 v11 v15 v25 v42) S) v
def u150_15 (C : CU) : CdU W13 := fun v S κ => W13.rec (motive := fun _ => RU) (fun v0 v1 v4 v5 v6 v7 v8 v9 v10 v11 v15 v25 v42 => 
 uSub v9 (.n 1) S fun v43 S =>
 κ .normal (.mk v0 v1 v4 v5 v6 v7 v8 v43 v10 v11 v15 v25 v42) S) v
def u150_16 (C : CU) (n : Nat) : CdU W13 := seqU (seqU (u150_7 C) (condU u150_8 (skipU) (exitU 0))) (seqU (blockU 1 (seqU (u150_9 C) (seqU (u150_10 C) (seqU (u150_11 C) (condU u150_12 (seqU (u150_13 C) (u150_14 C)) (skipU)))))) (u150_15 C))
def u150_17 (C : CU) : CdU W13 := fun v S κ => W13.rec (motive := fun _ => RU) (fun v0 v1 v4 v5 v6 v7 v8 v9 v10 v11 v15 v25 v42 => 
 uCall C 160 [v7] S fun v43 S =>
 κ .normal (.mk v0 v1 v43 v8 (.t true) v7 v8 v9 v10 v11 v15 v25 v42) S) v
def u150r (v : W13) (S : FAW) : RU := W13.rec (motive := fun _ => RU) (fun v0 v1 v4 v5 v6 v7 v8 v9 v10 v11 v15 v25 v42 => .ok (.u [v4, v5, v6]) S) v
def u150 : Fu := fun C n args S => (seqU (u150_0 C) (seqU (seqU (u150_1 C) (condU u150_2 (seqU (u150_3 C) (retU)) (skipU))) (seqU (u150_4 C) (seqU (u150_5 C) (seqU (seqU (u150_6 C) (blockU 0 (loopU n (u150_16 C n)))) (seqU (u150_17 C) (retU)))))) : CdU W13) (.mk (argU args 0) (argU args 1) (argU args 4) (argU args 5) (argU args 6) (argU args 7) (argU args 8) (argU args 9) (argU args 10) (argU args 11) (argU args 15) (argU args 25) (argU args 42)) S fun o v S => exU o (u150r v S) (fun _ => .no) (u150r v S)
/-! assayer/assayerref1.Cmp -/
def u151_0 (C : CU) : CdU W7 := fun v S κ => W7.rec (motive := fun _ => RU) (fun v0 v1 v4 v5 v13 v22 v29 => 
 κ .normal (.mk v0 v1 (.n 0) v5 v13 v22 v29) S) v
def u151_1 (C : CU) : CdU W7 := fun v S κ => W7.rec (motive := fun _ => RU) (fun v0 v1 v4 v5 v13 v22 v29 => 
 uLen false v0 S fun v30 S =>
 uLen false v1 S fun v31 S =>
 uMM true [v30, v31] S fun v32 S =>
 uSub v32 (.n 1) S fun v33 S =>
 κ .normal (.mk v0 v1 v4 v33 v13 v22 v29) S) v
def u151_2 (C : CU) : CdU W7 := fun v S κ => W7.rec (motive := fun _ => RU) (fun v0 v1 v4 v5 v13 v22 v29 => 
 uCmp (fun a b => Nat.ble b a) .geq v5 (.n 0) S fun v30 S =>
 κ .normal (.mk v0 v1 v4 v5 v30 v22 v29) S) v
def u151_3 : W7 → FV := fun v => W7.rec (motive := fun _ => FV) (fun v0 v1 v4 v5 v13 v22 v29 => v13) v
def u151_4 (C : CU) : CdU W7 := fun v S κ => W7.rec (motive := fun _ => RU) (fun v0 v1 v4 v5 v13 v22 v29 => 
 uCall C 163 [v0, v5] S fun v30 S =>
 uCall C 163 [v1, v5] S fun v31 S =>
 uCmp ltN .lss v30 v31 S fun v32 S =>
 κ .normal (.mk v0 v1 v4 v5 v13 v32 v29) S) v
def u151_5 : W7 → FV := fun v => W7.rec (motive := fun _ => FV) (fun v0 v1 v4 v5 v13 v22 v29 => v22) v
def u151_6 (C : CU) : CdU W7 := fun v S κ => W7.rec (motive := fun _ => RU) (fun v0 v1 v4 v5 v13 v22 v29 => 
 κ .normal (.mk v0 v1 (.i .i64 (-1)) v5 v13 v22 v29) S) v
def u151_7 (C : CU) : CdU W7 := fun v S κ => W7.rec (motive := fun _ => RU) (fun v0 v1 v4 v5 v13 v22 v29 => 
 uCall C 163 [v0, v5] S fun v30 S =>
 uCall C 163 [v1, v5] S fun v31 S =>
 uCmp (fun a b => ltN b a) .gtr v30 v31 S fun v32 S =>
 κ .normal (.mk v0 v1 v4 v5 v13 v22 v32) S) v
def u151_8 : W7 → FV := fun v => W7.rec (motive := fun _ => FV) (fun v0 v1 v4 v5 v13 v22 v29 => v29) v
def u151_9 (C : CU) : CdU W7 := fun v S κ => W7.rec (motive := fun _ => RU) (fun v0 v1 v4 v5 v13 v22 v29 => 
 κ .normal (.mk v0 v1 (.n 1) v5 v13 v22 v29) S) v
def u151_10 (C : CU) : CdU W7 := fun v S κ => W7.rec (motive := fun _ => RU) (fun v0 v1 v4 v5 v13 v22 v29 => 
 uSub v5 (.n 1) S fun v30 S =>
 κ .normal (.mk v0 v1 v4 v30 v13 v22 v29) S) v
def u151_11 (C : CU) (n : Nat) : CdU W7 := seqU (seqU (u151_2 C) (condU u151_3 (skipU) (exitU 0))) (seqU (blockU 1 (seqU (seqU (u151_4 C) (condU u151_5 (seqU (u151_6 C) (retU)) (skipU))) (seqU (u151_7 C) (condU u151_8 (seqU (u151_9 C) (retU)) (skipU))))) (u151_10 C))
def u151_12 (C : CU) : CdU W7 := fun v S κ => W7.rec (motive := fun _ => RU) (fun v0 v1 v4 v5 v13 v22 v29 => 
 κ .normal (.mk v0 v1 (.n 0) v5 v13 v22 v29) S) v
def u151r (v : W7) (S : FAW) : RU := W7.rec (motive := fun _ => RU) (fun v0 v1 v4 v5 v13 v22 v29 => .ok v4 S) v
def u151 : Fu := fun C n args S => (seqU (u151_0 C) (seqU (seqU (u151_1 C) (blockU 0 (loopU n (u151_11 C n)))) (seqU (u151_12 C) (retU))) : CdU W7) (.mk (argU args 0) (argU args 1) (argU args 4) (argU args 5) (argU args 13) (argU args 22) (argU args 29)) S fun o v S => exU o (u151r v S) (fun _ => .no) (u151r v S)
/-! assayer/assayerref1.Add -/
def u152_0 (C : CU) : CdU W7 := fun v S κ => W7.rec (motive := fun _ => RU) (fun v0 v1 v4 v5 v6 v7 v21 => 
 κ .normal (.mk v0 v1 .nl v5 v6 v7 v21) S) v
def u152_1 (C : CU) : CdU W7 := fun v S κ => W7.rec (motive := fun _ => RU) (fun v0 v1 v4 v5 v6 v7 v21 => 
 κ .normal (.mk v0 v1 v4 .nl v6 v7 v21) S) v
def u152_2 (C : CU) : CdU W7 := fun v S κ => W7.rec (motive := fun _ => RU) (fun v0 v1 v4 v5 v6 v7 v21 => 
 κ .normal (.mk v0 v1 v4 v5 (.i .u64 0) v7 v21) S) v
def u152_3 (C : CU) : CdU W7 := fun v S κ => W7.rec (motive := fun _ => RU) (fun v0 v1 v4 v5 v6 v7 v21 => 
 κ .normal (.mk v0 v1 v4 v5 v6 (.n 0) v21) S) v
def u152_4 (C : CU) : CdU W7 := fun v S κ => W7.rec (motive := fun _ => RU) (fun v0 v1 v4 v5 v6 v7 v21 => 
 uLen false v0 S fun v22 S =>
 uCmp ltN .lss v7 v22 S fun v23 S =>
 eT v23 fun b => cn b
 (κ .normal (.mk v0 v1 v4 v5 v6 v7 (.t true)) S)
 (uLen false v1 S fun v24 S =>
 uCmp ltN .lss v7 v24 S fun v25 S =>
 eT v25 fun b => cn b
 (κ .normal (.mk v0 v1 v4 v5 v6 v7 (.t true)) S)
 (uCmp (fun a b => ltN b a) .gtr v6 (.i .u64 0) S fun v26 S =>
 κ .normal (.mk v0 v1 v4 v5 v6 v7 v26) S))) v
def u152_5 : W7 → FV := fun v => W7.rec (motive := fun _ => FV) (fun v0 v1 v4 v5 v6 v7 v21 => v21) v
def u152_6 (C : CU) : CdU W7 := fun v S κ => W7.rec (motive := fun _ => RU) (fun v0 v1 v4 v5 v6 v7 v21 => 
 uCall C 163 [v0, v7] S fun v22 S =>
 uAdd v6 v22 S fun v23 S =>
 uCall C 163 [v1, v7] S fun v24 S =>
 uAdd v23 v24 S fun v25 S =>
 κ .normal (.mk v0 v1 v4 v5 v25 v7 v21) S) v
def u152_7 (C : CU) : CdU W7 := fun v S κ => W7.rec (motive := fun _ => RU) (fun v0 v1 v4 v5 v6 v7 v21 => 
 uCvI .u32 v6 S fun v22 S =>
 uLitF 191 1 [(.i .u32 0)] 1 [(0, 1, v22)] S fun v23 S =>
 uApp 191 1 4 v5 v23 S fun v24 S =>
 κ .normal (.mk v0 v1 v4 v24 v6 v7 v21) S) v
def u152_8 (C : CU) : CdU W7 := fun v S κ => W7.rec (motive := fun _ => RU) (fun v0 v1 v4 v5 v6 v7 v21 => 
 uSlow .shr v6 (.i .u64 32) S fun v22 S =>
 κ .normal (.mk v0 v1 v4 v5 v22 v7 v21) S) v
def u152_9 (C : CU) : CdU W7 := fun v S κ => W7.rec (motive := fun _ => RU) (fun v0 v1 v4 v5 v6 v7 v21 => 
 uAdd v7 (.n 1) S fun v22 S =>
 κ .normal (.mk v0 v1 v4 v5 v6 v22 v21) S) v
def u152_10 (C : CU) (n : Nat) : CdU W7 := seqU (seqU (u152_4 C) (condU u152_5 (skipU) (exitU 0))) (seqU (blockU 1 (seqU (u152_6 C) (seqU (u152_7 C) (u152_8 C)))) (u152_9 C))
def u152_11 (C : CU) : CdU W7 := fun v S κ => W7.rec (motive := fun _ => RU) (fun v0 v1 v4 v5 v6 v7 v21 => 
 uCall C 160 [v5] S fun v22 S =>
 κ .normal (.mk v0 v1 v22 v5 v6 v7 v21) S) v
def u152r (v : W7) (S : FAW) : RU := W7.rec (motive := fun _ => RU) (fun v0 v1 v4 v5 v6 v7 v21 => .ok v4 S) v
def u152 : Fu := fun C n args S => (seqU (u152_0 C) (seqU (u152_1 C) (seqU (u152_2 C) (seqU (seqU (u152_3 C) (blockU 0 (loopU n (u152_10 C n)))) (seqU (u152_11 C) (retU))))) : CdU W7) (.mk (argU args 0) (argU args 1) (argU args 4) (argU args 5) (argU args 6) (argU args 7) (argU args 21)) S fun o v S => exU o (u152r v S) (fun _ => .no) (u152r v S)
/-! assayer/assayerref1.Low -/
def u153_0 (C : CU) : CdU W2 := fun v S κ => W2.rec (motive := fun _ => RU) (fun v0 v2 => 
 κ .normal (.mk v0 (.i .u64 0)) S) v
def u153_1 (C : CU) : CdU W2 := fun v S κ => W2.rec (motive := fun _ => RU) (fun v0 v2 => 
 uCall C 163 [v0, (.n 0)] S fun v3 S =>
 uCall C 163 [v0, (.n 1)] S fun v4 S =>
 uSlow .shl v4 (.i .u64 32) S fun v5 S =>
 uSlow .or v3 v5 S fun v6 S =>
 κ .normal (.mk v0 v6) S) v
def u153r (v : W2) (S : FAW) : RU := W2.rec (motive := fun _ => RU) (fun v0 v2 => .ok v2 S) v
def u153 : Fu := fun C n args S => (seqU (u153_0 C) (seqU (u153_1 C) (retU)) : CdU W2) (.mk (argU args 0) (argU args 2)) S fun o v S => exU o (u153r v S) (fun _ => .no) (u153r v S)
/-! strings.explode -/
def u154_0 (C : CU) : CdU W10 := fun v S κ => W10.rec (motive := fun _ => RU) (fun v0 v1 v4 v5 v6 v7 v9 v18 v25 v43 => 
 κ .normal (.mk v0 v1 .nl v5 v6 v7 v9 v18 v25 v43) S) v
def u154_1 (C : CU) : CdU W10 := fun v S κ => W10.rec (motive := fun _ => RU) (fun v0 v1 v4 v5 v6 v7 v9 v18 v25 v43 => 
 uCall C 164 [v0] S fun v44 S =>
 κ .normal (.mk v0 v1 v4 v44 v6 v7 v9 v18 v25 v43) S) v
def u154_2 (C : CU) : CdU W10 := fun v S κ => W10.rec (motive := fun _ => RU) (fun v0 v1 v4 v5 v6 v7 v9 v18 v25 v43 => 
 uCmp ltN .lss v1 (.n 0) S fun v44 S =>
 eT v44 fun b => cn b
 (κ .normal (.mk v0 v1 v4 v5 v6 v7 v9 (.t true) v25 v43) S)
 (uCmp (fun a b => ltN b a) .gtr v1 v5 S fun v45 S =>
 κ .normal (.mk v0 v1 v4 v5 v6 v7 v9 v45 v25 v43) S)) v
def u154_3 : W10 → FV := fun v => W10.rec (motive := fun _ => FV) (fun v0 v1 v4 v5 v6 v7 v9 v18 v25 v43 => v18) v
def u154_4 (C : CU) : CdU W10 := fun v S κ => W10.rec (motive := fun _ => RU) (fun v0 v1 v4 v5 v6 v7 v9 v18 v25 v43 => 
 κ .normal (.mk v0 v5 v4 v5 v6 v7 v9 v18 v25 v43) S) v
def u154_5 (C : CU) : CdU W10 := fun v S κ => W10.rec (motive := fun _ => RU) (fun v0 v1 v4 v5 v6 v7 v9 v18 v25 v43 => 
 uMksF 9 1 16 [(.s [])] v1 v1 S fun v44 S =>
 κ .normal (.mk v0 v1 v4 v5 v44 v7 v9 v18 v25 v43) S) v
def u154_6 (C : CU) : CdU W10 := fun v S κ => W10.rec (motive := fun _ => RU) (fun v0 v1 v4 v5 v6 v7 v9 v18 v25 v43 => 
 κ .normal (.mk v0 v1 v4 v5 v6 (.n 0) v9 v18 v25 v43) S) v
def u154_7 (C : CU) : CdU W10 := fun v S κ => W10.rec (motive := fun _ => RU) (fun v0 v1 v4 v5 v6 v7 v9 v18 v25 v43 => 
 uSub v1 (.n 1) S fun v44 S =>
 uCmp ltN .lss v7 v44 S fun v45 S =>
 κ .normal (.mk v0 v1 v4 v5 v6 v7 v9 v18 v45 v43) S) v
def u154_8 : W10 → FV := fun v => W10.rec (motive := fun _ => FV) (fun v0 v1 v4 v5 v6 v7 v9 v18 v25 v43 => v25) v
def u154_9 (C : CU) : CdU W10 := fun v S κ => W10.rec (motive := fun _ => RU) (fun v0 v1 v4 v5 v6 v7 v9 v18 v25 v43 => 
 uCall C 165 [v0] S fun v44 S =>
 uExt 0 v44 S fun v45 S =>
 uExt 1 v44 S fun v46 S =>
 κ .normal (.mk v0 v1 v4 v5 v6 v7 v46 v18 v25 v43) S) v
def u154_10 (C : CU) : CdU W10 := fun v S κ => W10.rec (motive := fun _ => RU) (fun v0 v1 v4 v5 v6 v7 v9 v18 v25 v43 => 
 uSlS v0 none (some v9) S fun v44 S =>
 uIad 1 v6 v7 S fun v45 S =>
 uSt 1 v45 v44 S fun v46 S =>
 κ .normal (.mk v0 v1 v4 v5 v6 v7 v9 v18 v25 v43) S) v
def u154_11 (C : CU) : CdU W10 := fun v S κ => W10.rec (motive := fun _ => RU) (fun v0 v1 v4 v5 v6 v7 v9 v18 v25 v43 => 
 uSlS v0 (some v9) none S fun v44 S =>
 κ .normal (.mk v44 v1 v4 v5 v6 v7 v9 v18 v25 v43) S) v
def u154_12 (C : CU) : CdU W10 := fun v S κ => W10.rec (motive := fun _ => RU) (fun v0 v1 v4 v5 v6 v7 v9 v18 v25 v43 => 
 uAdd v7 (.n 1) S fun v44 S =>
 κ .normal (.mk v0 v1 v4 v5 v6 v44 v9 v18 v25 v43) S) v
def u154_13 (C : CU) (n : Nat) : CdU W10 := seqU (seqU (u154_7 C) (condU u154_8 (skipU) (exitU 0))) (seqU (blockU 1 (seqU (u154_9 C) (seqU (u154_10 C) (u154_11 C)))) (u154_12 C))
def u154_14 (C : CU) : CdU W10 := fun v S κ => W10.rec (motive := fun _ => RU) (fun v0 v1 v4 v5 v6 v7 v9 v18 v25 v43 => 
 uCmp (fun a b => ltN b a) .gtr v1 (.n 0) S fun v44 S =>
 κ .normal (.mk v0 v1 v4 v5 v6 v7 v9 v18 v25 v44) S) v
def u154_15 : W10 → FV := fun v => W10.rec (motive := fun _ => FV) (fun v0 v1 v4 v5 v6 v7 v9 v18 v25 v43 => v43) v
def u154_16 (C : CU) : CdU W10 := fun v S κ => W10.rec (motive := fun _ => RU) (fun v0 v1 v4 v5 v6 v7 v9 v18 v25 v43 => 
 uSub v1 (.n 1) S fun v44 S =>
 uIad 1 v6 v44 S fun v45 S =>
 uSt 1 v45 v0 S fun v46 S =>
 κ .normal (.mk v0 v1 v4 v5 v6 v7 v9 v18 v25 v43) S) v
def u154_17 (C : CU) : CdU W10 := fun v S κ => W10.rec (motive := fun _ => RU) (fun v0 v1 v4 v5 v6 v7 v9 v18 v25 v43 => 
 κ .normal (.mk v0 v1 v6 v5 v6 v7 v9 v18 v25 v43) S) v
def u154r (v : W10) (S : FAW) : RU := W10.rec (motive := fun _ => RU) (fun v0 v1 v4 v5 v6 v7 v9 v18 v25 v43 => .ok v4 S) v
def u154 : Fu := fun C n args S => (seqU (u154_0 C) (seqU (u154_1 C) (seqU (seqU (u154_2 C) (condU u154_3 (u154_4 C) (skipU))) (seqU (u154_5 C) (seqU (seqU (u154_6 C) (blockU 0 (loopU n (u154_13 C n)))) (seqU (seqU (u154_14 C) (condU u154_15 (u154_16 C) (skipU))) (seqU (u154_17 C) (retU))))))) : CdU W10) (.mk (argU args 0) (argU args 1) (argU args 4) (argU args 5) (argU args 6) (argU args 7) (argU args 9) (argU args 18) (argU args 25) (argU args 43)) S fun o v S => exU o (u154r v S) (fun _ => .no) (u154r v S)
/-! strings.Count -/
def u155_0 (C : CU) : CdU W8 := fun v S κ => W8.rec (motive := fun _ => RU) (fun v0 v1 v4 v5 v6 v9 v15 v24 => 
 κ .normal (.mk v0 v1 (.n 0) v5 v6 v9 v15 v24) S) v
def u155_1 (C : CU) : CdU W8 := fun v S κ => W8.rec (motive := fun _ => RU) (fun v0 v1 v4 v5 v6 v9 v15 v24 => 
 uLen true v1 S fun v25 S =>
 uEq false .eql v25 (.n 0) S fun v26 S =>
 κ .normal (.mk v0 v1 v4 v5 v6 v26 v15 v24) S) v
def u155_2 : W8 → FV := fun v => W8.rec (motive := fun _ => FV) (fun v0 v1 v4 v5 v6 v9 v15 v24 => v9) v
def u155_3 (C : CU) : CdU W8 := fun v S κ => W8.rec (motive := fun _ => RU) (fun v0 v1 v4 v5 v6 v9 v15 v24 => 
 uCall C 164 [v0] S fun v25 S =>
 uAdd v25 (.n 1) S fun v26 S =>
 κ .normal (.mk v0 v1 v26 v5 v6 v9 v15 v24) S) v
def u155_4 (C : CU) : CdU W8 := fun v S κ => W8.rec (motive := fun _ => RU) (fun v0 v1 v4 v5 v6 v9 v15 v24 => 
 uLen true v1 S fun v25 S =>
 uEq false .eql v25 (.n 1) S fun v26 S =>
 κ .normal (.mk v0 v1 v4 v5 v6 v9 v26 v24) S) v
def u155_5 : W8 → FV := fun v => W8.rec (motive := fun _ => FV) (fun v0 v1 v4 v5 v6 v9 v15 v24 => v15) v
def u155_6 (C : CU) : CdU W8 := fun v S κ => W8.rec (motive := fun _ => RU) (fun v0 v1 v4 v5 v6 v9 v15 v24 => 
 uIdxS v1 (.n 0) S fun v25 S =>
 uCall C 166 [v0, v25] S fun v26 S =>
 κ .normal (.mk v0 v1 v26 v5 v6 v9 v15 v24) S) v
def u155_7 (C : CU) : CdU W8 := fun v S κ => W8.rec (motive := fun _ => RU) (fun v0 v1 v4 v5 v6 v9 v15 v24 => 
 κ .normal (.mk v0 v1 v4 (.n 0) v6 v9 v15 v24) S) v
def u155_8 (C : CU) : CdU W8 := fun v S κ => W8.rec (motive := fun _ => RU) (fun v0 v1 v4 v5 v6 v9 v15 v24 => 
 uCall C 156 [v0, v1] S fun v25 S =>
 κ .normal (.mk v0 v1 v4 v5 v25 v9 v15 v24) S) v
def u155_9 (C : CU) : CdU W8 := fun v S κ => W8.rec (motive := fun _ => RU) (fun v0 v1 v4 v5 v6 v9 v15 v24 => 
 uEq false .eql v6 (.i .i64 (-1)) S fun v25 S =>
 κ .normal (.mk v0 v1 v4 v5 v6 v9 v15 v25) S) v
def u155_10 : W8 → FV := fun v => W8.rec (motive := fun _ => FV) (fun v0 v1 v4 v5 v6 v9 v15 v24 => v24) v
def u155_11 (C : CU) : CdU W8 := fun v S κ => W8.rec (motive := fun _ => RU) (fun v0 v1 v4 v5 v6 v9 v15 v24 => 
 κ .normal (.mk v0 v1 v5 v5 v6 v9 v15 v24) S) v
def u155_12 (C : CU) : CdU W8 := fun v S κ => W8.rec (motive := fun _ => RU) (fun v0 v1 v4 v5 v6 v9 v15 v24 => 
 uAdd v5 (.n 1) S fun v25 S =>
 κ .normal (.mk v0 v1 v4 v25 v6 v9 v15 v24) S) v
def u155_13 (C : CU) : CdU W8 := fun v S κ => W8.rec (motive := fun _ => RU) (fun v0 v1 v4 v5 v6 v9 v15 v24 => 
 uLen true v1 S fun v25 S =>
 uAdd v6 v25 S fun v26 S =>
 uSlS v0 (some v26) none S fun v27 S =>
 κ .normal (.mk v27 v1 v4 v5 v6 v9 v15 v24) S) v
def u155_14 (C : CU) (n : Nat) : CdU W8 := blockU 1 (seqU (u155_8 C) (seqU (seqU (u155_9 C) (condU u155_10 (seqU (u155_11 C) (retU)) (skipU))) (seqU (u155_12 C) (u155_13 C))))
def u155r (v : W8) (S : FAW) : RU := W8.rec (motive := fun _ => RU) (fun v0 v1 v4 v5 v6 v9 v15 v24 => .ok v4 S) v
def u155 : Fu := fun C n args S => (seqU (u155_0 C) (seqU (seqU (u155_1 C) (condU u155_2 (seqU (u155_3 C) (retU)) (skipU))) (seqU (seqU (u155_4 C) (condU u155_5 (seqU (u155_6 C) (retU)) (skipU))) (seqU (u155_7 C) (blockU 0 (loopU n (u155_14 C n)))))) : CdU W8) (.mk (argU args 0) (argU args 1) (argU args 4) (argU args 5) (argU args 6) (argU args 9) (argU args 15) (argU args 24)) S fun o v S => exU o (u155r v S) (fun _ => .no) (u155r v S)
/-! strings.Index -/
def u156_0 (C : CU) : CdU W3 := fun v S κ => W3.rec (motive := fun _ => RU) (fun v0 v1 v4 => 
 κ .normal (.mk v0 v1 (.n 0)) S) v
def u156_1 (C : CU) : CdU W3 := fun v S κ => W3.rec (motive := fun _ => RU) (fun v0 v1 v4 => 
 uCall C 82 [v0, v1] S fun v5 S =>
 κ .normal (.mk v0 v1 v5) S) v
def u156r (v : W3) (S : FAW) : RU := W3.rec (motive := fun _ => RU) (fun v0 v1 v4 => .ok v4 S) v
def u156 : Fu := fun C n args S => (seqU (u156_0 C) (seqU (u156_1 C) (retU)) : CdU W3) (.mk (argU args 0) (argU args 1) (argU args 4)) S fun o v S => exU o (u156r v S) (fun _ => .no) (u156r v S)
/-! slices.Contains[[]string,string] -/
def u157_0 (C : CU) : CdU W3 := fun v S κ => W3.rec (motive := fun _ => RU) (fun v0 v1 v4 => 
 κ .normal (.mk v0 v1 (.t false)) S) v
def u157_1 (C : CU) : CdU W3 := fun v S κ => W3.rec (motive := fun _ => RU) (fun v0 v1 v4 => 
 uCall C 58 [v0, v1] S fun v5 S =>
 uCmp (fun a b => Nat.ble b a) .geq v5 (.n 0) S fun v6 S =>
 κ .normal (.mk v0 v1 v6) S) v
def u157r (v : W3) (S : FAW) : RU := W3.rec (motive := fun _ => RU) (fun v0 v1 v4 => .ok v4 S) v
def u157 : Fu := fun C n args S => (seqU (u157_0 C) (seqU (u157_1 C) (retU)) : CdU W3) (.mk (argU args 0) (argU args 1) (argU args 4)) S fun o v S => exU o (u157r v S) (fun _ => .no) (u157r v S)
/-! assayer/assayerref1.exponent -/
def u158_0 (C : CU) : CdU W14 := fun v S κ => W14.rec (motive := fun _ => RU) (fun v0 v2 v3 v4 v5 v6 v7 v10 v18 v33 v41 v45 v57 v67 => 
 κ .normal (.mk v0 (.n 0) (.t false) (.n 0) v5 v6 v7 v10 v18 v33 v41 v45 v57 v67) S) v
def u158_1 (C : CU) : CdU W14 := fun v S κ => W14.rec (motive := fun _ => RU) (fun v0 v2 v3 v4 v5 v6 v7 v10 v18 v33 v41 v45 v57 v67 => 
 uLen true v0 S fun v68 S =>
 uEq false .eql v68 (.n 0) S fun v69 S =>
 κ .normal (.mk v0 v2 v3 v4 v5 v6 v7 v69 v18 v33 v41 v45 v57 v67) S) v
def u158_2 : W14 → FV := fun v => W14.rec (motive := fun _ => FV) (fun v0 v2 v3 v4 v5 v6 v7 v10 v18 v33 v41 v45 v57 v67 => v10) v
def u158_3 (C : CU) : CdU W14 := fun v S κ => W14.rec (motive := fun _ => RU) (fun v0 v2 v3 v4 v5 v6 v7 v10 v18 v33 v41 v45 v57 v67 => 
 κ .normal (.mk v0 (.n 0) (.t false) (.n 0) v5 v6 v7 v10 v18 v33 v41 v45 v57 v67) S) v
def u158_4 (C : CU) : CdU W14 := fun v S κ => W14.rec (motive := fun _ => RU) (fun v0 v2 v3 v4 v5 v6 v7 v10 v18 v33 v41 v45 v57 v67 => 
 uIdxS v0 (.n 0) S fun v68 S =>
 uEq true .neq v68 (.b 101) S fun v69 S =>
 eT v69 fun b => cn b
 (uIdxS v0 (.n 0) S fun v70 S =>
 uEq true .neq v70 (.b 69) S fun v71 S =>
 κ .normal (.mk v0 v2 v3 v4 v5 v6 v7 v10 v71 v33 v41 v45 v57 v67) S)
 (κ .normal (.mk v0 v2 v3 v4 v5 v6 v7 v10 (.t false) v33 v41 v45 v57 v67) S)) v
def u158_5 : W14 → FV := fun v => W14.rec (motive := fun _ => FV) (fun v0 v2 v3 v4 v5 v6 v7 v10 v18 v33 v41 v45 v57 v67 => v18) v
def u158_6 (C : CU) : CdU W14 := fun v S κ => W14.rec (motive := fun _ => RU) (fun v0 v2 v3 v4 v5 v6 v7 v10 v18 v33 v41 v45 v57 v67 => 
 κ .normal (.mk v0 (.n 0) (.t false) (.n 2) v5 v6 v7 v10 v18 v33 v41 v45 v57 v67) S) v
def u158_7 (C : CU) : CdU W14 := fun v S κ => W14.rec (motive := fun _ => RU) (fun v0 v2 v3 v4 v5 v6 v7 v10 v18 v33 v41 v45 v57 v67 => 
 uSlS v0 (some (.n 1)) none S fun v68 S =>
 κ .normal (.mk v68 v2 v3 v4 v5 v6 v7 v10 v18 v33 v41 v45 v57 v67) S) v
def u158_8 (C : CU) : CdU W14 := fun v S κ => W14.rec (motive := fun _ => RU) (fun v0 v2 v3 v4 v5 v6 v7 v10 v18 v33 v41 v45 v57 v67 => 
 κ .normal (.mk v0 v2 v3 v4 (.t false) v6 v7 v10 v18 v33 v41 v45 v57 v67) S) v
def u158_9 (C : CU) : CdU W14 := fun v S κ => W14.rec (motive := fun _ => RU) (fun v0 v2 v3 v4 v5 v6 v7 v10 v18 v33 v41 v45 v57 v67 => 
 uLen true v0 S fun v68 S =>
 uCmp (fun a b => ltN b a) .gtr v68 (.n 0) S fun v69 S =>
 eT v69 fun b => cn b
 (uIdxS v0 (.n 0) S fun v70 S =>
 uEq false .eql v70 (.b 43) S fun v71 S =>
 eT v71 fun b => cn b
 (κ .normal (.mk v0 v2 v3 v4 v5 v6 v7 v10 v18 (.t true) v41 v45 v57 v67) S)
 (uIdxS v0 (.n 0) S fun v72 S =>
 uEq false .eql v72 (.b 45) S fun v73 S =>
 κ .normal (.mk v0 v2 v3 v4 v5 v6 v7 v10 v18 v73 v41 v45 v57 v67) S))
 (κ .normal (.mk v0 v2 v3 v4 v5 v6 v7 v10 v18 (.t false) v41 v45 v57 v67) S)) v
def u158_10 : W14 → FV := fun v => W14.rec (motive := fun _ => FV) (fun v0 v2 v3 v4 v5 v6 v7 v10 v18 v33 v41 v45 v57 v67 => v33) v
def u158_11 (C : CU) : CdU W14 := fun v S κ => W14.rec (motive := fun _ => RU) (fun v0 v2 v3 v4 v5 v6 v7 v10 v18 v33 v41 v45 v57 v67 => 
 uIdxS v0 (.n 0) S fun v68 S =>
 uEq false .eql v68 (.b 45) S fun v69 S =>
 κ .normal (.mk v0 v2 v3 v4 v69 v6 v7 v10 v18 v33 v41 v45 v57 v67) S) v
def u158_12 (C : CU) : CdU W14 := fun v S κ => W14.rec (motive := fun _ => RU) (fun v0 v2 v3 v4 v5 v6 v7 v10 v18 v33 v41 v45 v57 v67 => 
 uSlS v0 (some (.n 1)) none S fun v68 S =>
 κ .normal (.mk v68 v2 v3 v4 v5 v6 v7 v10 v18 v33 v41 v45 v57 v67) S) v
def u158_13 (C : CU) : CdU W14 := fun v S κ => W14.rec (motive := fun _ => RU) (fun v0 v2 v3 v4 v5 v6 v7 v10 v18 v33 v41 v45 v57 v67 => 
 uLen true v0 S fun v68 S =>
 uEq false .eql v68 (.n 0) S fun v69 S =>
 κ .normal (.mk v0 v2 v3 v4 v5 v6 v7 v10 v18 v33 v69 v45 v57 v67) S) v
def u158_14 : W14 → FV := fun v => W14.rec (motive := fun _ => FV) (fun v0 v2 v3 v4 v5 v6 v7 v10 v18 v33 v41 v45 v57 v67 => v41) v
def u158_15 (C : CU) : CdU W14 := fun v S κ => W14.rec (motive := fun _ => RU) (fun v0 v2 v3 v4 v5 v6 v7 v10 v18 v33 v41 v45 v57 v67 => 
 κ .normal (.mk v0 (.n 0) (.t false) (.n 2) v5 v6 v7 v10 v18 v33 v41 v45 v57 v67) S) v
def u158_16 (C : CU) : CdU W14 := fun v S κ => W14.rec (motive := fun _ => RU) (fun v0 v2 v3 v4 v5 v6 v7 v10 v18 v33 v41 v45 v57 v67 => 
 κ .normal (.mk v0 v2 v3 v4 v5 (.n 0) v7 v10 v18 v33 v41 v45 v57 v67) S) v
def u158_17 (C : CU) : CdU W14 := fun v S κ => W14.rec (motive := fun _ => RU) (fun v0 v2 v3 v4 v5 v6 v7 v10 v18 v33 v41 v45 v57 v67 => 
 κ .normal (.mk v0 v2 v3 v4 v5 v6 (.n 0) v10 v18 v33 v41 v45 v57 v67) S) v
def u158_18 (C : CU) : CdU W14 := fun v S κ => W14.rec (motive := fun _ => RU) (fun v0 v2 v3 v4 v5 v6 v7 v10 v18 v33 v41 v45 v57 v67 => 
 uLen true v0 S fun v68 S =>
 uCmp ltN .lss v7 v68 S fun v69 S =>
 κ .normal (.mk v0 v2 v3 v4 v5 v6 v7 v10 v18 v33 v41 v69 v57 v67) S) v
def u158_19 : W14 → FV := fun v => W14.rec (motive := fun _ => FV) (fun v0 v2 v3 v4 v5 v6 v7 v10 v18 v33 v41 v45 v57 v67 => v45) v
def u158_20 (C : CU) : CdU W14 := fun v S κ => W14.rec (motive := fun _ => RU) (fun v0 v2 v3 v4 v5 v6 v7 v10 v18 v33 v41 v45 v57 v67 => 
 uIdxS v0 v7 S fun v68 S =>
 uCmp ltN .lss v68 (.b 48) S fun v69 S =>
 eT v69 fun b => cn b
 (κ .normal (.mk v0 v2 v3 v4 v5 v6 v7 v10 v18 v33 v41 v45 (.t true) v67) S)
 (uIdxS v0 v7 S fun v70 S =>
 uCmp (fun a b => ltN b a) .gtr v70 (.b 57) S fun v71 S =>
 κ .normal (.mk v0 v2 v3 v4 v5 v6 v7 v10 v18 v33 v41 v45 v71 v67) S)) v
def u158_21 : W14 → FV := fun v => W14.rec (motive := fun _ => FV) (fun v0 v2 v3 v4 v5 v6 v7 v10 v18 v33 v41 v45 v57 v67 => v57) v
def u158_22 (C : CU) : CdU W14 := fun v S κ => W14.rec (motive := fun _ => RU) (fun v0 v2 v3 v4 v5 v6 v7 v10 v18 v33 v41 v45 v57 v67 => 
 κ .normal (.mk v0 (.n 0) (.t false) (.n 2) v5 v6 v7 v10 v18 v33 v41 v45 v57 v67) S) v
def u158_23 (C : CU) : CdU W14 := fun v S κ => W14.rec (motive := fun _ => RU) (fun v0 v2 v3 v4 v5 v6 v7 v10 v18 v33 v41 v45 v57 v67 => 
 uMul v6 (.n 10) S fun v68 S =>
 uIdxS v0 v7 S fun v69 S =>
 uSub v69 (.b 48) S fun v70 S =>
 uCvI .i64 v70 S fun v71 S =>
 uAdd v68 v71 S fun v72 S =>
 uMM false [v72, (.n 100000)] S fun v73 S =>
 κ .normal (.mk v0 v2 v3 v4 v5 v73 v7 v10 v18 v33 v41 v45 v57 v67) S) v
def u158_24 (C : CU) : CdU W14 := fun v S κ => W14.rec (motive := fun _ => RU) (fun v0 v2 v3 v4 v5 v6 v7 v10 v18 v33 v41 v45 v57 v67 => 
 uAdd v7 (.n 1) S fun v68 S =>
 κ .normal (.mk v0 v2 v3 v4 v5 v6 v68 v10 v18 v33 v41 v45 v57 v67) S) v
def u158_25 (C : CU) (n : Nat) : CdU W14 := seqU (seqU (u158_18 C) (condU u158_19 (skipU) (exitU 0))) (seqU (blockU 1 (seqU (seqU (u158_20 C) (condU u158_21 (seqU (u158_22 C) (retU)) (skipU))) (u158_23 C))) (u158_24 C))
def u158_26 (C : CU) : CdU W14 := fun v S κ => W14.rec (motive := fun _ => RU) (fun v0 v2 v3 v4 v5 v6 v7 v10 v18 v33 v41 v45 v57 v67 => 
 κ .normal (.mk v0 v2 v3 v4 v5 v6 v7 v10 v18 v33 v41 v45 v57 v5) S) v
def u158_27 : W14 → FV := fun v => W14.rec (motive := fun _ => FV) (fun v0 v2 v3 v4 v5 v6 v7 v10 v18 v33 v41 v45 v57 v67 => v67) v
def u158_28 (C : CU) : CdU W14 := fun v S κ => W14.rec (motive := fun _ => RU) (fun v0 v2 v3 v4 v5 v6 v7 v10 v18 v33 v41 v45 v57 v67 => 
 uUn .neg v6 S fun v68 S =>
 uCmp (fun a b => ltN b a) .gtr v6 (.n 400) S fun v69 S =>
 κ .normal (.mk v0 v68 v69 (.n 0) v5 v6 v7 v10 v18 v33 v41 v45 v57 v67) S) v
def u158_29 (C : CU) : CdU W14 := fun v S κ => W14.rec (motive := fun _ => RU) (fun v0 v2 v3 v4 v5 v6 v7 v10 v18 v33 v41 v45 v57 v67 => 
 uCmp (fun a b => ltN b a) .gtr v6 (.n 400) S fun v68 S =>
 κ .normal (.mk v0 v6 v68 (.n 0) v5 v6 v7 v10 v18 v33 v41 v45 v57 v67) S) v
def u158r (v : W14) (S : FAW) : RU := W14.rec (motive := fun _ => RU) (fun v0 v2 v3 v4 v5 v6 v7 v10 v18 v33 v41 v45 v57 v67 => .ok (.u [v2, v3, v4]) S) v
def u158 : Fu := fun C n args S => (seqU (u158_0 C) (seqU (seqU (u158_1 C) (condU u158_2 (seqU (u158_3 C) (retU)) (skipU))) (seqU (seqU (u158_4 C) (condU u158_5 (seqU (u158_6 C) (retU)) (skipU))) (seqU (u158_7 C) (seqU (u158_8 C) (seqU (seqU (u158_9 C) (condU u158_10 (seqU (u158_11 C) (u158_12 C)) (skipU))) (seqU (seqU (u158_13 C) (condU u158_14 (seqU (u158_15 C) (retU)) (skipU))) (seqU (u158_16 C) (seqU (seqU (u158_17 C) (blockU 0 (loopU n (u158_25 C n)))) (seqU (seqU (u158_26 C) (condU u158_27 (seqU (u158_28 C) (retU)) (skipU))) (seqU (u158_29 C) (retU))))))))))) : CdU W14) (.mk (argU args 0) (argU args 2) (argU args 3) (argU args 4) (argU args 5) (argU args 6) (argU args 7) (argU args 10) (argU args 18) (argU args 33) (argU args 41) (argU args 45) (argU args 57) (argU args 67)) S fun o v S => exU o (u158r v S) (fun _ => .no) (u158r v S)
/-! assayer/assayerref1.round -/
def u159_0 (C : CU) : CdU W13 := fun v S κ => W13.rec (motive := fun _ => RU) (fun v0 v1 v4 v5 v6 v7 v8 v9 v10 v12 v15 v41 v59 => 
 κ .normal (.mk v0 v1 (.i .u64 0) (.t false) v6 v7 v8 v9 v10 v12 v15 v41 v59) S) v
def u159_1 (C : CU) : CdU W13 := fun v S κ => W13.rec (motive := fun _ => RU) (fun v0 v1 v4 v5 v6 v7 v8 v9 v10 v12 v15 v41 v59 => 
 uLen false v0 S fun v60 S =>
 uEq false .eql v60 (.n 0) S fun v61 S =>
 κ .normal (.mk v0 v1 v4 v5 v6 v7 v8 v9 v10 v12 v61 v41 v59) S) v
def u159_2 : W13 → FV := fun v => W13.rec (motive := fun _ => FV) (fun v0 v1 v4 v5 v6 v7 v8 v9 v10 v12 v15 v41 v59 => v15) v
def u159_3 (C : CU) : CdU W13 := fun v S κ => W13.rec (motive := fun _ => RU) (fun v0 v1 v4 v5 v6 v7 v8 v9 v10 v12 v15 v41 v59 => 
 κ .normal (.mk v0 v1 (.i .u64 0) (.t true) v6 v7 v8 v9 v10 v12 v15 v41 v59) S) v
def u159_4 (C : CU) : CdU W13 := fun v S κ => W13.rec (motive := fun _ => RU) (fun v0 v1 v4 v5 v6 v7 v8 v9 v10 v12 v15 v41 v59 => 
 uCall C 146 [v0] S fun v60 S =>
 uCall C 146 [v1] S fun v61 S =>
 uSub v60 v61 S fun v62 S =>
 uSub v62 (.n 53) S fun v63 S =>
 uMM true [v63, (.i .i64 (-1074))] S fun v64 S =>
 κ .normal (.mk v0 v1 v4 v5 v64 v7 v8 v9 v10 v12 v15 v41 v59) S) v
def u159_5 (C : CU) : CdU W13 := fun v S κ => W13.rec (motive := fun _ => RU) (fun v0 v1 v4 v5 v6 v7 v8 v9 v10 v12 v15 v41 v59 => 
 uUn .neg v6 S fun v60 S =>
 uMM true [v60, (.n 0)] S fun v61 S =>
 uCall C 145 [v0, v61] S fun v62 S =>
 uMM true [v6, (.n 0)] S fun v63 S =>
 uCall C 145 [v1, v63] S fun v64 S =>
 κ .normal (.mk v0 v1 v4 v5 v6 v62 v64 v9 v10 v12 v15 v41 v59) S) v
def u159_6 (C : CU) : CdU W13 := fun v S κ => W13.rec (motive := fun _ => RU) (fun v0 v1 v4 v5 v6 v7 v8 v9 v10 v12 v15 v41 v59 => 
 uCall C 150 [v7, v8] S fun v60 S =>
 uExt 0 v60 S fun v61 S =>
 uExt 1 v60 S fun v62 S =>
 uExt 2 v60 S fun v63 S =>
 κ .normal (.mk v0 v1 v4 v5 v6 v7 v8 v61 v62 v12 v15 v41 v59) S) v
def u159_7 (C : CU) : CdU W13 := fun v S κ => W13.rec (motive := fun _ => RU) (fun v0 v1 v4 v5 v6 v7 v8 v9 v10 v12 v15 v41 v59 => 
 uCall C 146 [v9] S fun v60 S =>
 uCmp (fun a b => ltN b a) .gtr v60 (.n 53) S fun v61 S =>
 κ .normal (.mk v0 v1 v4 v5 v6 v7 v8 v9 v10 v12 v15 v61 v59) S) v
def u159_8 : W13 → FV := fun v => W13.rec (motive := fun _ => FV) (fun v0 v1 v4 v5 v6 v7 v8 v9 v10 v12 v15 v41 v59 => v41) v
def u159_9 (C : CU) : CdU W13 := fun v S κ => W13.rec (motive := fun _ => RU) (fun v0 v1 v4 v5 v6 v7 v8 v9 v10 v12 v15 v41 v59 => 
 uAdd v6 (.n 1) S fun v60 S =>
 κ .normal (.mk v0 v1 v4 v5 v60 v7 v8 v9 v10 v12 v15 v41 v59) S) v
def u159_10 (C : CU) : CdU W13 := fun v S κ => W13.rec (motive := fun _ => RU) (fun v0 v1 v4 v5 v6 v7 v8 v9 v10 v12 v15 v41 v59 => 
 uCall C 152 [v10, v10] S fun v60 S =>
 uCall C 151 [v60, v8] S fun v61 S =>
 κ .normal (.mk v0 v1 v4 v5 v6 v7 v8 v9 v10 v61 v15 v41 v59) S) v
def u159_11 (C : CU) : CdU W13 := fun v S κ => W13.rec (motive := fun _ => RU) (fun v0 v1 v4 v5 v6 v7 v8 v9 v10 v12 v15 v41 v59 => 
 uCmp (fun a b => ltN b a) .gtr v12 (.n 0) S fun v60 S =>
 eT v60 fun b => cn b
 (κ .normal (.mk v0 v1 v4 v5 v6 v7 v8 v9 v10 v12 v15 v41 (.t true)) S)
 (uEq false .eql v12 (.n 0) S fun v61 S =>
 eT v61 fun b => cn b
 (uCall C 161 [v9, (.n 0)] S fun v62 S =>
 uEq false .eql v62 (.i .u64 1) S fun v63 S =>
 κ .normal (.mk v0 v1 v4 v5 v6 v7 v8 v9 v10 v12 v15 v41 v63) S)
 (κ .normal (.mk v0 v1 v4 v5 v6 v7 v8 v9 v10 v12 v15 v41 (.t false)) S))) v
def u159_12 : W13 → FV := fun v => W13.rec (motive := fun _ => FV) (fun v0 v1 v4 v5 v6 v7 v8 v9 v10 v12 v15 v41 v59 => v59) v
def u159_13 (C : CU) : CdU W13 := fun v S κ => W13.rec (motive := fun _ => RU) (fun v0 v1 v4 v5 v6 v7 v8 v9 v10 v12 v15 v41 v59 => 
 uCall C 144 [(.i .u64 1)] S fun v60 S =>
 uCall C 152 [v9, v60] S fun v61 S =>
 κ .normal (.mk v0 v1 v4 v5 v6 v7 v8 v61 v10 v12 v15 v41 v59) S) v
def u159_14 (C : CU) : CdU W13 := fun v S κ => W13.rec (motive := fun _ => RU) (fun v0 v1 v4 v5 v6 v7 v8 v9 v10 v12 v15 v41 v59 => 
 uCall C 153 [v9] S fun v60 S =>
 uCall C 167 [v60, v6] S fun v61 S =>
 uExt 0 v61 S fun v62 S =>
 uExt 1 v61 S fun v63 S =>
 κ .normal (.mk v0 v1 v62 v63 v6 v7 v8 v9 v10 v12 v15 v41 v59) S) v
def u159_15 (C : CU) (n : Nat) : CdU W13 := blockU 1 (seqU (u159_5 C) (seqU (u159_6 C) (seqU (seqU (u159_7 C) (condU u159_8 (seqU (u159_9 C) (exitU 1)) (skipU))) (seqU (u159_10 C) (seqU (seqU (u159_11 C) (condU u159_12 (u159_13 C) (skipU))) (seqU (u159_14 C) (retU)))))))
def u159r (v : W13) (S : FAW) : RU := W13.rec (motive := fun _ => RU) (fun v0 v1 v4 v5 v6 v7 v8 v9 v10 v12 v15 v41 v59 => .ok (.u [v4, v5]) S) v
def u159 : Fu := fun C n args S => (seqU (u159_0 C) (seqU (seqU (u159_1 C) (condU u159_2 (seqU (u159_3 C) (retU)) (skipU))) (seqU (u159_4 C) (blockU 0 (loopU n (u159_15 C n))))) : CdU W13) (.mk (argU args 0) (argU args 1) (argU args 4) (argU args 5) (argU args 6) (argU args 7) (argU args 8) (argU args 9) (argU args 10) (argU args 12) (argU args 15) (argU args 41) (argU args 59)) S fun o v S => exU o (u159r v S) (fun _ => .no) (u159r v S)
/-! assayer/assayerref1.Norm -/
def u160_0 (C : CU) : CdU W4 := fun v S κ => W4.rec (motive := fun _ => RU) (fun v0 v2 v3 v15 => 
 κ .normal (.mk v0 .nl v3 v15) S) v
def u160_1 (C : CU) : CdU W4 := fun v S κ => W4.rec (motive := fun _ => RU) (fun v0 v2 v3 v15 => 
 uLen false v0 S fun v16 S =>
 κ .normal (.mk v0 v2 v16 v15) S) v
def u160_2 (C : CU) : CdU W4 := fun v S κ => W4.rec (motive := fun _ => RU) (fun v0 v2 v3 v15 => 
 uCmp (fun a b => ltN b a) .gtr v3 (.n 0) S fun v16 S =>
 eT v16 fun b => cn b
 (uSub v3 (.n 1) S fun v17 S =>
 uIad 1 v0 v17 S fun v18 S =>
 uLd none v18 S fun v19 S =>
 uEq false .eql v19 (.i .u32 0) S fun v20 S =>
 κ .normal (.mk v0 v2 v3 v20) S)
 (κ .normal (.mk v0 v2 v3 (.t false)) S)) v
def u160_3 : W4 → FV := fun v => W4.rec (motive := fun _ => FV) (fun v0 v2 v3 v15 => v15) v
def u160_4 (C : CU) : CdU W4 := fun v S κ => W4.rec (motive := fun _ => RU) (fun v0 v2 v3 v15 => 
 uSub v3 (.n 1) S fun v16 S =>
 κ .normal (.mk v0 v2 v16 v15) S) v
def u160_5 (C : CU) (n : Nat) : CdU W4 := seqU (seqU (u160_2 C) (condU u160_3 (skipU) (exitU 0))) (blockU 1 (u160_4 C))
def u160_6 (C : CU) : CdU W4 := fun v S κ => W4.rec (motive := fun _ => RU) (fun v0 v2 v3 v15 => 
 uLitF 191 1 [(.i .u32 0)] 0 [] S fun v16 S =>
 uSlV 1 v0 none (some v3) none S fun v17 S =>
 uApp 191 1 4 v16 v17 S fun v18 S =>
 κ .normal (.mk v0 v18 v3 v15) S) v
def u160r (v : W4) (S : FAW) : RU := W4.rec (motive := fun _ => RU) (fun v0 v2 v3 v15 => .ok v2 S) v
def u160 : Fu := fun C n args S => (seqU (u160_0 C) (seqU (u160_1 C) (seqU (blockU 0 (loopU n (u160_5 C n))) (seqU (u160_6 C) (retU)))) : CdU W4) (.mk (argU args 0) (argU args 2) (argU args 3) (argU args 15)) S fun o v S => exU o (u160r v S) (fun _ => .no) (u160r v S)
/-! assayer/assayerref1.bit -/
def u161_0 (C : CU) : CdU W3 := fun v S κ => W3.rec (motive := fun _ => RU) (fun v0 v1 v4 => 
 κ .normal (.mk v0 v1 (.i .u64 0)) S) v
def u161_1 (C : CU) : CdU W3 := fun v S κ => W3.rec (motive := fun _ => RU) (fun v0 v1 v4 => 
 uQuo true .quo v1 (.n 32) S fun v5 S =>
 uCall C 163 [v0, v5] S fun v6 S =>
 uQuo false .rem v1 (.n 32) S fun v7 S =>
 uSlow .shr v6 v7 S fun v8 S =>
 uSlow .and v8 (.i .u64 1) S fun v9 S =>
 κ .normal (.mk v0 v1 v9) S) v
def u161r (v : W3) (S : FAW) : RU := W3.rec (motive := fun _ => RU) (fun v0 v1 v4 => .ok v4 S) v
def u161 : Fu := fun C n args S => (seqU (u161_0 C) (seqU (u161_1 C) (retU)) : CdU W3) (.mk (argU args 0) (argU args 1) (argU args 4)) S fun o v S => exU o (u161r v S) (fun _ => .no) (u161r v S)
/-! assayer/assayerref1.Sub -/
def u162_0 (C : CU) : CdU W10 := fun v S κ => W10.rec (motive := fun _ => RU) (fun v0 v1 v4 v5 v6 v7 v8 v9 v13 v17 => 
 κ .normal (.mk v0 v1 .nl (.t false) v6 v7 v8 v9 v13 v17) S) v
def u162_1 (C : CU) : CdU W10 := fun v S κ => W10.rec (motive := fun _ => RU) (fun v0 v1 v4 v5 v6 v7 v8 v9 v13 v17 => 
 uCall C 151 [v0, v1] S fun v18 S =>
 uCmp ltN .lss v18 (.n 0) S fun v19 S =>
 κ .normal (.mk v0 v1 v4 v5 v6 v7 v8 v9 v19 v17) S) v
def u162_2 : W10 → FV := fun v => W10.rec (motive := fun _ => FV) (fun v0 v1 v4 v5 v6 v7 v8 v9 v13 v17 => v13) v
def u162_3 (C : CU) : CdU W10 := fun v S κ => W10.rec (motive := fun _ => RU) (fun v0 v1 v4 v5 v6 v7 v8 v9 v13 v17 => 
 κ .normal (.mk v0 v1 .nl (.t false) v6 v7 v8 v9 v13 v17) S) v
def u162_4 (C : CU) : CdU W10 := fun v S κ => W10.rec (motive := fun _ => RU) (fun v0 v1 v4 v5 v6 v7 v8 v9 v13 v17 => 
 κ .normal (.mk v0 v1 v4 v5 .nl v7 v8 v9 v13 v17) S) v
def u162_5 (C : CU) : CdU W10 := fun v S κ => W10.rec (motive := fun _ => RU) (fun v0 v1 v4 v5 v6 v7 v8 v9 v13 v17 => 
 κ .normal (.mk v0 v1 v4 v5 v6 (.i .u64 0) v8 v9 v13 v17) S) v
def u162_6 (C : CU) : CdU W10 := fun v S κ => W10.rec (motive := fun _ => RU) (fun v0 v1 v4 v5 v6 v7 v8 v9 v13 v17 => 
 κ .normal (.mk v0 v1 v4 v5 v6 v7 (.n 0) v9 v13 v17) S) v
def u162_7 (C : CU) : CdU W10 := fun v S κ => W10.rec (motive := fun _ => RU) (fun v0 v1 v4 v5 v6 v7 v8 v9 v13 v17 => 
 uLen false v0 S fun v18 S =>
 uCmp ltN .lss v8 v18 S fun v19 S =>
 κ .normal (.mk v0 v1 v4 v5 v6 v7 v8 v9 v13 v19) S) v
def u162_8 : W10 → FV := fun v => W10.rec (motive := fun _ => FV) (fun v0 v1 v4 v5 v6 v7 v8 v9 v13 v17 => v17) v
def u162_9 (C : CU) : CdU W10 := fun v S κ => W10.rec (motive := fun _ => RU) (fun v0 v1 v4 v5 v6 v7 v8 v9 v13 v17 => 
 uCall C 163 [v0, v8] S fun v18 S =>
 uAdd v18 (.i .u64 4294967296) S fun v19 S =>
 uCall C 163 [v1, v8] S fun v20 S =>
 uSub v19 v20 S fun v21 S =>
 uSub v21 v7 S fun v22 S =>
 κ .normal (.mk v0 v1 v4 v5 v6 v7 v8 v22 v13 v17) S) v
def u162_10 (C : CU) : CdU W10 := fun v S κ => W10.rec (motive := fun _ => RU) (fun v0 v1 v4 v5 v6 v7 v8 v9 v13 v17 => 
 uCvI .u32 v9 S fun v18 S =>
 uLitF 191 1 [(.i .u32 0)] 1 [(0, 1, v18)] S fun v19 S =>
 uApp 191 1 4 v6 v19 S fun v20 S =>
 κ .normal (.mk v0 v1 v4 v5 v20 v7 v8 v9 v13 v17) S) v
def u162_11 (C : CU) : CdU W10 := fun v S κ => W10.rec (motive := fun _ => RU) (fun v0 v1 v4 v5 v6 v7 v8 v9 v13 v17 => 
 uSlow .shr v9 (.i .u64 32) S fun v18 S =>
 uSub (.i .u64 1) v18 S fun v19 S =>
 κ .normal (.mk v0 v1 v4 v5 v6 v19 v8 v9 v13 v17) S) v
def u162_12 (C : CU) : CdU W10 := fun v S κ => W10.rec (motive := fun _ => RU) (fun v0 v1 v4 v5 v6 v7 v8 v9 v13 v17 => 
 uAdd v8 (.n 1) S fun v18 S =>
 κ .normal (.mk v0 v1 v4 v5 v6 v7 v18 v9 v13 v17) S) v
def u162_13 (C : CU) (n : Nat) : CdU W10 := seqU (seqU (u162_7 C) (condU u162_8 (skipU) (exitU 0))) (seqU (blockU 1 (seqU (u162_9 C) (seqU (u162_10 C) (u162_11 C)))) (u162_12 C))
def u162_14 (C : CU) : CdU W10 := fun v S κ => W10.rec (motive := fun _ => RU) (fun v0 v1 v4 v5 v6 v7 v8 v9 v13 v17 => 
 uCall C 160 [v6] S fun v18 S =>
 κ .normal (.mk v0 v1 v18 (.t true) v6 v7 v8 v9 v13 v17) S) v
def u162r (v : W10) (S : FAW) : RU := W10.rec (motive := fun _ => RU) (fun v0 v1 v4 v5 v6 v7 v8 v9 v13 v17 => .ok (.u [v4, v5]) S) v
def u162 : Fu := fun C n args S => (seqU (u162_0 C) (seqU (seqU (u162_1 C) (condU u162_2 (seqU (u162_3 C) (retU)) (skipU))) (seqU (u162_4 C) (seqU (u162_5 C) (seqU (seqU (u162_6 C) (blockU 0 (loopU n (u162_13 C n)))) (seqU (u162_14 C) (retU)))))) : CdU W10) (.mk (argU args 0) (argU args 1) (argU args 4) (argU args 5) (argU args 6) (argU args 7) (argU args 8) (argU args 9) (argU args 13) (argU args 17)) S fun o v S => exU o (u162r v S) (fun _ => .no) (u162r v S)
/-! assayer/assayerref1.at -/
def u163_0 (C : CU) : CdU W4 := fun v S κ => W4.rec (motive := fun _ => RU) (fun v0 v1 v4 v8 => 
 κ .normal (.mk v0 v1 (.i .u64 0) v8) S) v
def u163_1 (C : CU) : CdU W4 := fun v S κ => W4.rec (motive := fun _ => RU) (fun v0 v1 v4 v8 => 
 uLen false v0 S fun v9 S =>
 uCmp ltN .lss v1 v9 S fun v10 S =>
 κ .normal (.mk v0 v1 v4 v10) S) v
def u163_2 : W4 → FV := fun v => W4.rec (motive := fun _ => FV) (fun v0 v1 v4 v8 => v8) v
def u163_3 (C : CU) : CdU W4 := fun v S κ => W4.rec (motive := fun _ => RU) (fun v0 v1 v4 v8 => 
 uIad 1 v0 v1 S fun v9 S =>
 uLd none v9 S fun v10 S =>
 uCvI .u64 v10 S fun v11 S =>
 κ .normal (.mk v0 v1 v11 v8) S) v
def u163_4 (C : CU) : CdU W4 := fun v S κ => W4.rec (motive := fun _ => RU) (fun v0 v1 v4 v8 => 
 κ .normal (.mk v0 v1 (.i .u64 0) v8) S) v
def u163r (v : W4) (S : FAW) : RU := W4.rec (motive := fun _ => RU) (fun v0 v1 v4 v8 => .ok v4 S) v
def u163 : Fu := fun C n args S => (seqU (u163_0 C) (seqU (seqU (u163_1 C) (condU u163_2 (seqU (u163_3 C) (retU)) (skipU))) (seqU (u163_4 C) (retU))) : CdU W4) (.mk (argU args 0) (argU args 1) (argU args 4) (argU args 8)) S fun o v S => exU o (u163r v S) (fun _ => .no) (u163r v S)
/-! unicode/utf8.RuneCountInString -/
def u164_0 (C : CU) : CdU W3 := fun v S κ => W3.rec (motive := fun _ => RU) (fun v0 v2 v6 => 
 κ .normal (.mk v0 (.n 0) v6) S) v
def u164_1 (C : CU) : CdU W3 := fun v S κ => W3.rec (motive := fun _ => RU) (fun v0 v2 v6 => 
 uNo S fun v7 S =>
 κ .normal (.mk v0 v2 v6) S) v
def u164_2 (C : CU) : CdU W3 := fun v S κ => W3.rec (motive := fun _ => RU) (fun v0 v2 v6 => 
 uNo S fun v7 S =>
 uExt 0 v7 S fun v8 S =>
 κ .normal (.mk v0 v2 v8) S) v
def u164_3 : W3 → FV := fun v => W3.rec (motive := fun _ => FV) (fun v0 v2 v6 => v6) v
def u164_4 (C : CU) : CdU W3 := fun v S κ => W3.rec (motive := fun _ => RU) (fun v0 v2 v6 => 
 uAdd v2 (.n 1) S fun v7 S =>
 κ .normal (.mk v0 v7 v6) S) v
def u164_5 (C : CU) (n : Nat) : CdU W3 := seqU (u164_2 C) (seqU (condU u164_3 (skipU) (exitU 0)) (blockU 1 (u164_4 C)))
def u164_6 (C : CU) : CdU W3 := fun v S κ => W3.rec (motive := fun _ => RU) (fun v0 v2 v6 => 
 κ .normal (.mk v0 v2 v6) S) v
def u164r (v : W3) (S : FAW) : RU := W3.rec (motive := fun _ => RU) (fun v0 v2 v6 => .ok v2 S) v
def u164 : Fu := fun C n args S => (seqU (u164_0 C) (seqU (seqU (u164_1 C) (blockU 0 (loopU n (u164_5 C n)))) (seqU (u164_6 C) (retU))) : CdU W3) (.mk (argU args 0) (argU args 2) (argU args 6)) S fun o v S => exU o (u164r v S) (fun _ => .no) (u164r v S)
/-! unicode/utf8.DecodeRuneInString -/
def u165_0 (C : CU) : CdU W4 := fun v S κ => W4.rec (motive := fun _ => RU) (fun v0 v2 v3 v10 => 
 κ .normal (.mk v0 (.i .i32 0) (.n 0) v10) S) v
def u165_1 (C : CU) : CdU W4 := fun v S κ => W4.rec (motive := fun _ => RU) (fun v0 v2 v3 v10 => 
 uEq true .neq v0 (.s []) S fun v11 S =>
 eT v11 fun b => cn b
 (uIdxS v0 (.n 0) S fun v12 S =>
 uCmp ltN .lss v12 (.b 128) S fun v13 S =>
 κ .normal (.mk v0 v2 v3 v13) S)
 (κ .normal (.mk v0 v2 v3 (.t false)) S)) v
def u165_2 : W4 → FV := fun v => W4.rec (motive := fun _ => FV) (fun v0 v2 v3 v10 => v10) v
def u165_3 (C : CU) : CdU W4 := fun v S κ => W4.rec (motive := fun _ => RU) (fun v0 v2 v3 v10 => 
 uIdxS v0 (.n 0) S fun v11 S =>
 uCvI .i32 v11 S fun v12 S =>
 κ .normal (.mk v0 v12 (.n 1) v10) S) v
def u165_4 (C : CU) : CdU W4 := fun v S κ => W4.rec (motive := fun _ => RU) (fun v0 v2 v3 v10 => 
 uCall C 168 [v0] S fun v11 S =>
 uExt 0 v11 S fun v12 S =>
 uExt 1 v11 S fun v13 S =>
 κ .normal (.mk v0 v12 v13 v10) S) v
def u165r (v : W4) (S : FAW) : RU := W4.rec (motive := fun _ => RU) (fun v0 v2 v3 v10 => .ok (.u [v2, v3]) S) v
def u165 : Fu := fun C n args S => (seqU (u165_0 C) (seqU (seqU (u165_1 C) (condU u165_2 (seqU (u165_3 C) (retU)) (u165_4 C))) (retU)) : CdU W4) (.mk (argU args 0) (argU args 2) (argU args 3) (argU args 10)) S fun o v S => exU o (u165r v S) (fun _ => .no) (u165r v S)
/-! assayer/assayerref1.packed -/
def u167_0 (C : CU) : CdU W7 := fun v S κ => W7.rec (motive := fun _ => RU) (fun v0 v1 v4 v5 v7 v13 v16 => 
 κ .normal (.mk v0 v1 (.i .u64 0) (.t false) v7 v13 v16) S) v
def u167_1 (C : CU) : CdU W7 := fun v S κ => W7.rec (motive := fun _ => RU) (fun v0 v1 v4 v5 v7 v13 v16 => 
 uEq false .eql v0 (.i .u64 9007199254740992) S fun v17 S =>
 κ .normal (.mk v0 v1 v4 v5 v17 v13 v16) S) v
def u167_2 : W7 → FV := fun v => W7.rec (motive := fun _ => FV) (fun v0 v1 v4 v5 v7 v13 v16 => v7) v
def u167_3 (C : CU) : CdU W7 := fun v S κ => W7.rec (motive := fun _ => RU) (fun v0 v1 v4 v5 v7 v13 v16 => 
 uQuo true .quo v0 (.i .u64 2) S fun v17 S =>
 uAdd v1 (.n 1) S fun v18 S =>
 κ .normal (.mk v17 v18 v4 v5 v7 v13 v16) S) v
def u167_4 (C : CU) : CdU W7 := fun v S κ => W7.rec (motive := fun _ => RU) (fun v0 v1 v4 v5 v7 v13 v16 => 
 uCmp ltN .lss v0 (.i .u64 4503599627370496) S fun v17 S =>
 κ .normal (.mk v0 v1 v4 v5 v7 v17 v16) S) v
def u167_5 : W7 → FV := fun v => W7.rec (motive := fun _ => FV) (fun v0 v1 v4 v5 v7 v13 v16 => v13) v
def u167_6 (C : CU) : CdU W7 := fun v S κ => W7.rec (motive := fun _ => RU) (fun v0 v1 v4 v5 v7 v13 v16 => 
 κ .normal (.mk v0 v1 v0 (.t true) v7 v13 v16) S) v
def u167_7 (C : CU) : CdU W7 := fun v S κ => W7.rec (motive := fun _ => RU) (fun v0 v1 v4 v5 v7 v13 v16 => 
 uCmp (fun a b => ltN b a) .gtr v1 (.n 971) S fun v17 S =>
 κ .normal (.mk v0 v1 v4 v5 v7 v13 v17) S) v
def u167_8 : W7 → FV := fun v => W7.rec (motive := fun _ => FV) (fun v0 v1 v4 v5 v7 v13 v16 => v16) v
def u167_9 (C : CU) : CdU W7 := fun v S κ => W7.rec (motive := fun _ => RU) (fun v0 v1 v4 v5 v7 v13 v16 => 
 κ .normal (.mk v0 v1 (.i .u64 0) (.t false) v7 v13 v16) S) v
def u167_10 (C : CU) : CdU W7 := fun v S κ => W7.rec (motive := fun _ => RU) (fun v0 v1 v4 v5 v7 v13 v16 => 
 uAdd v1 (.n 1075) S fun v17 S =>
 uCvI .u64 v17 S fun v18 S =>
 uSlow .shl v18 (.i .u64 52) S fun v19 S =>
 uSub v0 (.i .u64 4503599627370496) S fun v20 S =>
 uSlow .or v19 v20 S fun v21 S =>
 κ .normal (.mk v0 v1 v21 (.t true) v7 v13 v16) S) v
def u167r (v : W7) (S : FAW) : RU := W7.rec (motive := fun _ => RU) (fun v0 v1 v4 v5 v7 v13 v16 => .ok (.u [v4, v5]) S) v
def u167 : Fu := fun C n args S => (seqU (u167_0 C) (seqU (seqU (u167_1 C) (condU u167_2 (u167_3 C) (skipU))) (seqU (seqU (u167_4 C) (condU u167_5 (seqU (u167_6 C) (retU)) (skipU))) (seqU (seqU (u167_7 C) (condU u167_8 (seqU (u167_9 C) (retU)) (skipU))) (seqU (u167_10 C) (retU))))) : CdU W7) (.mk (argU args 0) (argU args 1) (argU args 4) (argU args 5) (argU args 7) (argU args 13) (argU args 16)) S fun o v S => exU o (u167r v S) (fun _ => .no) (u167r v S)
/-! unicode/utf8.decodeRuneInStringSlow -/
def u168_0 (C : CU) : CdU W20 := fun v S κ => W20.rec (motive := fun _ => RU) (fun v0 v2 v3 v4 v5 v6 v7 v8 v9 v10 v11 v12 v16 v23 v45 v57 v59 v75 v77 v98 => 
 κ .normal (.mk v0 (.i .i32 0) (.n 0) v4 v5 v6 v7 v8 v9 v10 v11 v12 v16 v23 v45 v57 v59 v75 v77 v98) S) v
def u168_1 (C : CU) : CdU W20 := fun v S κ => W20.rec (motive := fun _ => RU) (fun v0 v2 v3 v4 v5 v6 v7 v8 v9 v10 v11 v12 v16 v23 v45 v57 v59 v75 v77 v98 => 
 uLen true v0 S fun v99 S =>
 κ .normal (.mk v0 v2 v3 v99 v5 v6 v7 v8 v9 v10 v11 v12 v16 v23 v45 v57 v59 v75 v77 v98) S) v
def u168_2 (C : CU) : CdU W20 := fun v S κ => W20.rec (motive := fun _ => RU) (fun v0 v2 v3 v4 v5 v6 v7 v8 v9 v10 v11 v12 v16 v23 v45 v57 v59 v75 v77 v98 => 
 uCmp ltN .lss v4 (.n 1) S fun v99 S =>
 κ .normal (.mk v0 v2 v3 v4 v5 v6 v7 v8 v9 v10 v11 v12 v99 v23 v45 v57 v59 v75 v77 v98) S) v
def u168_3 : W20 → FV := fun v => W20.rec (motive := fun _ => FV) (fun v0 v2 v3 v4 v5 v6 v7 v8 v9 v10 v11 v12 v16 v23 v45 v57 v59 v75 v77 v98 => v16) v
def u168_4 (C : CU) : CdU W20 := fun v S κ => W20.rec (motive := fun _ => RU) (fun v0 v2 v3 v4 v5 v6 v7 v8 v9 v10 v11 v12 v16 v23 v45 v57 v59 v75 v77 v98 => 
 κ .normal (.mk v0 (.i .i32 65533) (.n 0) v4 v5 v6 v7 v8 v9 v10 v11 v12 v16 v23 v45 v57 v59 v75 v77 v98) S) v
def u168_5 (C : CU) : CdU W20 := fun v S κ => W20.rec (motive := fun _ => RU) (fun v0 v2 v3 v4 v5 v6 v7 v8 v9 v10 v11 v12 v16 v23 v45 v57 v59 v75 v77 v98 => 
 uIdxS v0 (.n 0) S fun v99 S =>
 κ .normal (.mk v0 v2 v3 v4 v99 v6 v7 v8 v9 v10 v11 v12 v16 v23 v45 v57 v59 v75 v77 v98) S) v
def u168_6 (C : CU) : CdU W20 := fun v S κ => W20.rec (motive := fun _ => RU) (fun v0 v2 v3 v4 v5 v6 v7 v8 v9 v10 v11 v12 v16 v23 v45 v57 v59 v75 v77 v98 => 
 eT (.f 0 [] []) fun b => cn b
 (κ .normal (.mk v0 v2 v3 v4 v5 v6 v7 v8 v9 v10 v11 v12 v16 v23 v45 v57 v59 v75 v77 v98) S)
 (κ .normal (.mk v0 v2 v3 v4 v5 v6 v7 v8 v9 v10 v11 v12 v16 v23 v45 v57 v59 v75 v77 v98) S)) v
def u168_7 (C : CU) : CdU W20 := fun v S κ => W20.rec (motive := fun _ => RU) (fun v0 v2 v3 v4 v5 v6 v7 v8 v9 v10 v11 v12 v16 v23 v45 v57 v59 v75 v77 v98 => 
 uCmp (fun a b => Nat.ble b a) .geq v6 (.b 240) S fun v99 S =>
 κ .normal (.mk v0 v2 v3 v4 v5 v6 v7 v8 v9 v10 v11 v12 v16 v99 v45 v57 v59 v75 v77 v98) S) v
def u168_8 : W20 → FV := fun v => W20.rec (motive := fun _ => FV) (fun v0 v2 v3 v4 v5 v6 v7 v8 v9 v10 v11 v12 v16 v23 v45 v57 v59 v75 v77 v98 => v23) v
def u168_9 (C : CU) : CdU W20 := fun v S κ => W20.rec (motive := fun _ => RU) (fun v0 v2 v3 v4 v5 v6 v7 v8 v9 v10 v11 v12 v16 v23 v45 v57 v59 v75 v77 v98 => 
 uCvI .i32 v6 S fun v99 S =>
 uSlow .shl v99 (.i .u64 31) S fun v100 S =>
 uSlow .shr v100 (.i .u64 31) S fun v101 S =>
 κ .normal (.mk v0 v2 v3 v4 v5 v6 v101 v8 v9 v10 v11 v12 v16 v23 v45 v57 v59 v75 v77 v98) S) v
def u168_10 (C : CU) : CdU W20 := fun v S κ => W20.rec (motive := fun _ => RU) (fun v0 v2 v3 v4 v5 v6 v7 v8 v9 v10 v11 v12 v16 v23 v45 v57 v59 v75 v77 v98 => 
 uIdxS v0 (.n 0) S fun v99 S =>
 uCvI .i32 v99 S fun v100 S =>
 uSlow .andNot v100 v7 S fun v101 S =>
 uSlow .and (.i .i32 65533) v7 S fun v102 S =>
 uSlow .or v101 v102 S fun v103 S =>
 κ .normal (.mk v0 v103 (.n 1) v4 v5 v6 v7 v8 v9 v10 v11 v12 v16 v23 v45 v57 v59 v75 v77 v98) S) v
def u168_11 (C : CU) : CdU W20 := fun v S κ => W20.rec (motive := fun _ => RU) (fun v0 v2 v3 v4 v5 v6 v7 v8 v9 v10 v11 v12 v16 v23 v45 v57 v59 v75 v77 v98 => 
 uSlow .and v6 (.b 7) S fun v99 S =>
 uCvI .i64 v99 S fun v100 S =>
 κ .normal (.mk v0 v2 v3 v4 v5 v6 v7 v100 v9 v10 v11 v12 v16 v23 v45 v57 v59 v75 v77 v98) S) v
def u168_12 (C : CU) : CdU W20 := fun v S κ => W20.rec (motive := fun _ => RU) (fun v0 v2 v3 v4 v5 v6 v7 v8 v9 v10 v11 v12 v16 v23 v45 v57 v59 v75 v77 v98 => 
 uSlow .shr v6 (.i .u64 4) S fun v99 S =>
 eT (.f 0 [] []) fun b => cn b
 (κ .normal (.mk v0 v2 v3 v4 v5 v6 v7 v8 v9 v10 v11 v12 v16 v23 v45 v57 v59 v75 v77 v98) S)
 (κ .normal (.mk v0 v2 v3 v4 v5 v6 v7 v8 v9 v10 v11 v12 v16 v23 v45 v57 v59 v75 v77 v98) S)) v
def u168_13 (C : CU) : CdU W20 := fun v S κ => W20.rec (motive := fun _ => RU) (fun v0 v2 v3 v4 v5 v6 v7 v8 v9 v10 v11 v12 v16 v23 v45 v57 v59 v75 v77 v98 => 
 uCmp ltN .lss v4 v8 S fun v99 S =>
 κ .normal (.mk v0 v2 v3 v4 v5 v6 v7 v8 v9 v10 v11 v12 v16 v23 v99 v57 v59 v75 v77 v98) S) v
def u168_14 : W20 → FV := fun v => W20.rec (motive := fun _ => FV) (fun v0 v2 v3 v4 v5 v6 v7 v8 v9 v10 v11 v12 v16 v23 v45 v57 v59 v75 v77 v98 => v45) v
def u168_15 (C : CU) : CdU W20 := fun v S κ => W20.rec (motive := fun _ => RU) (fun v0 v2 v3 v4 v5 v6 v7 v8 v9 v10 v11 v12 v16 v23 v45 v57 v59 v75 v77 v98 => 
 κ .normal (.mk v0 (.i .i32 65533) (.n 1) v4 v5 v6 v7 v8 v9 v10 v11 v12 v16 v23 v45 v57 v59 v75 v77 v98) S) v
def u168_16 (C : CU) : CdU W20 := fun v S κ => W20.rec (motive := fun _ => RU) (fun v0 v2 v3 v4 v5 v6 v7 v8 v9 v10 v11 v12 v16 v23 v45 v57 v59 v75 v77 v98 => 
 uIdxS v0 (.n 1) S fun v99 S =>
 κ .normal (.mk v0 v2 v3 v4 v5 v6 v7 v8 v9 v99 v11 v12 v16 v23 v45 v57 v59 v75 v77 v98) S) v
def u168_17 (C : CU) : CdU W20 := fun v S κ => W20.rec (motive := fun _ => RU) (fun v0 v2 v3 v4 v5 v6 v7 v8 v9 v10 v11 v12 v16 v23 v45 v57 v59 v75 v77 v98 => 
 uFad 0 v9 S fun v99 S =>
 uLd none v99 S fun v100 S =>
 uCmp ltN .lss v10 v100 S fun v101 S =>
 eT v101 fun b => cn b
 (κ .normal (.mk v0 v2 v3 v4 v5 v6 v7 v8 v9 v10 v11 v12 v16 v23 v45 (.t true) v59 v75 v77 v98) S)
 (uFad 1 v9 S fun v102 S =>
 uLd none v102 S fun v103 S =>
 uCmp ltN .lss v103 v10 S fun v104 S =>
 κ .normal (.mk v0 v2 v3 v4 v5 v6 v7 v8 v9 v10 v11 v12 v16 v23 v45 v104 v59 v75 v77 v98) S)) v
def u168_18 : W20 → FV := fun v => W20.rec (motive := fun _ => FV) (fun v0 v2 v3 v4 v5 v6 v7 v8 v9 v10 v11 v12 v16 v23 v45 v57 v59 v75 v77 v98 => v57) v
def u168_19 (C : CU) : CdU W20 := fun v S κ => W20.rec (motive := fun _ => RU) (fun v0 v2 v3 v4 v5 v6 v7 v8 v9 v10 v11 v12 v16 v23 v45 v57 v59 v75 v77 v98 => 
 κ .normal (.mk v0 (.i .i32 65533) (.n 1) v4 v5 v6 v7 v8 v9 v10 v11 v12 v16 v23 v45 v57 v59 v75 v77 v98) S) v
def u168_20 (C : CU) : CdU W20 := fun v S κ => W20.rec (motive := fun _ => RU) (fun v0 v2 v3 v4 v5 v6 v7 v8 v9 v10 v11 v12 v16 v23 v45 v57 v59 v75 v77 v98 => 
 uCmp Nat.ble .leq v8 (.n 2) S fun v99 S =>
 κ .normal (.mk v0 v2 v3 v4 v5 v6 v7 v8 v9 v10 v11 v12 v16 v23 v45 v57 v99 v75 v77 v98) S) v
def u168_21 : W20 → FV := fun v => W20.rec (motive := fun _ => FV) (fun v0 v2 v3 v4 v5 v6 v7 v8 v9 v10 v11 v12 v16 v23 v45 v57 v59 v75 v77 v98 => v59) v
def u168_22 (C : CU) : CdU W20 := fun v S κ => W20.rec (motive := fun _ => RU) (fun v0 v2 v3 v4 v5 v6 v7 v8 v9 v10 v11 v12 v16 v23 v45 v57 v59 v75 v77 v98 => 
 uSlow .and v5 (.b 31) S fun v99 S =>
 uCvI .i32 v99 S fun v100 S =>
 uSlow .shl v100 (.i .u64 6) S fun v101 S =>
 uSlow .and v10 (.b 63) S fun v102 S =>
 uCvI .i32 v102 S fun v103 S =>
 uSlow .or v101 v103 S fun v104 S =>
 κ .normal (.mk v0 v104 (.n 2) v4 v5 v6 v7 v8 v9 v10 v11 v12 v16 v23 v45 v57 v59 v75 v77 v98) S) v
def u168_23 (C : CU) : CdU W20 := fun v S κ => W20.rec (motive := fun _ => RU) (fun v0 v2 v3 v4 v5 v6 v7 v8 v9 v10 v11 v12 v16 v23 v45 v57 v59 v75 v77 v98 => 
 uIdxS v0 (.n 2) S fun v99 S =>
 κ .normal (.mk v0 v2 v3 v4 v5 v6 v7 v8 v9 v10 v99 v12 v16 v23 v45 v57 v59 v75 v77 v98) S) v
def u168_24 (C : CU) : CdU W20 := fun v S κ => W20.rec (motive := fun _ => RU) (fun v0 v2 v3 v4 v5 v6 v7 v8 v9 v10 v11 v12 v16 v23 v45 v57 v59 v75 v77 v98 => 
 uCmp ltN .lss v11 (.b 128) S fun v99 S =>
 eT v99 fun b => cn b
 (κ .normal (.mk v0 v2 v3 v4 v5 v6 v7 v8 v9 v10 v11 v12 v16 v23 v45 v57 v59 (.t true) v77 v98) S)
 (uCmp ltN .lss (.b 191) v11 S fun v100 S =>
 κ .normal (.mk v0 v2 v3 v4 v5 v6 v7 v8 v9 v10 v11 v12 v16 v23 v45 v57 v59 v100 v77 v98) S)) v
def u168_25 : W20 → FV := fun v => W20.rec (motive := fun _ => FV) (fun v0 v2 v3 v4 v5 v6 v7 v8 v9 v10 v11 v12 v16 v23 v45 v57 v59 v75 v77 v98 => v75) v
def u168_26 (C : CU) : CdU W20 := fun v S κ => W20.rec (motive := fun _ => RU) (fun v0 v2 v3 v4 v5 v6 v7 v8 v9 v10 v11 v12 v16 v23 v45 v57 v59 v75 v77 v98 => 
 κ .normal (.mk v0 (.i .i32 65533) (.n 1) v4 v5 v6 v7 v8 v9 v10 v11 v12 v16 v23 v45 v57 v59 v75 v77 v98) S) v
def u168_27 (C : CU) : CdU W20 := fun v S κ => W20.rec (motive := fun _ => RU) (fun v0 v2 v3 v4 v5 v6 v7 v8 v9 v10 v11 v12 v16 v23 v45 v57 v59 v75 v77 v98 => 
 uCmp Nat.ble .leq v8 (.n 3) S fun v99 S =>
 κ .normal (.mk v0 v2 v3 v4 v5 v6 v7 v8 v9 v10 v11 v12 v16 v23 v45 v57 v59 v75 v99 v98) S) v
def u168_28 : W20 → FV := fun v => W20.rec (motive := fun _ => FV) (fun v0 v2 v3 v4 v5 v6 v7 v8 v9 v10 v11 v12 v16 v23 v45 v57 v59 v75 v77 v98 => v77) v
def u168_29 (C : CU) : CdU W20 := fun v S κ => W20.rec (motive := fun _ => RU) (fun v0 v2 v3 v4 v5 v6 v7 v8 v9 v10 v11 v12 v16 v23 v45 v57 v59 v75 v77 v98 => 
 uSlow .and v5 (.b 15) S fun v99 S =>
 uCvI .i32 v99 S fun v100 S =>
 uSlow .shl v100 (.i .u64 12) S fun v101 S =>
 uSlow .and v10 (.b 63) S fun v102 S =>
 uCvI .i32 v102 S fun v103 S =>
 uSlow .shl v103 (.i .u64 6) S fun v104 S =>
 uSlow .or v101 v104 S fun v105 S =>
 uSlow .and v11 (.b 63) S fun v106 S =>
 uCvI .i32 v106 S fun v107 S =>
 uSlow .or v105 v107 S fun v108 S =>
 κ .normal (.mk v0 v108 (.n 3) v4 v5 v6 v7 v8 v9 v10 v11 v12 v16 v23 v45 v57 v59 v75 v77 v98) S) v
def u168_30 (C : CU) : CdU W20 := fun v S κ => W20.rec (motive := fun _ => RU) (fun v0 v2 v3 v4 v5 v6 v7 v8 v9 v10 v11 v12 v16 v23 v45 v57 v59 v75 v77 v98 => 
 uIdxS v0 (.n 3) S fun v99 S =>
 κ .normal (.mk v0 v2 v3 v4 v5 v6 v7 v8 v9 v10 v11 v99 v16 v23 v45 v57 v59 v75 v77 v98) S) v
def u168_31 (C : CU) : CdU W20 := fun v S κ => W20.rec (motive := fun _ => RU) (fun v0 v2 v3 v4 v5 v6 v7 v8 v9 v10 v11 v12 v16 v23 v45 v57 v59 v75 v77 v98 => 
 uCmp ltN .lss v12 (.b 128) S fun v99 S =>
 eT v99 fun b => cn b
 (κ .normal (.mk v0 v2 v3 v4 v5 v6 v7 v8 v9 v10 v11 v12 v16 v23 v45 v57 v59 v75 v77 (.t true)) S)
 (uCmp ltN .lss (.b 191) v12 S fun v100 S =>
 κ .normal (.mk v0 v2 v3 v4 v5 v6 v7 v8 v9 v10 v11 v12 v16 v23 v45 v57 v59 v75 v77 v100) S)) v
def u168_32 : W20 → FV := fun v => W20.rec (motive := fun _ => FV) (fun v0 v2 v3 v4 v5 v6 v7 v8 v9 v10 v11 v12 v16 v23 v45 v57 v59 v75 v77 v98 => v98) v
def u168_33 (C : CU) : CdU W20 := fun v S κ => W20.rec (motive := fun _ => RU) (fun v0 v2 v3 v4 v5 v6 v7 v8 v9 v10 v11 v12 v16 v23 v45 v57 v59 v75 v77 v98 => 
 κ .normal (.mk v0 (.i .i32 65533) (.n 1) v4 v5 v6 v7 v8 v9 v10 v11 v12 v16 v23 v45 v57 v59 v75 v77 v98) S) v
def u168_34 (C : CU) : CdU W20 := fun v S κ => W20.rec (motive := fun _ => RU) (fun v0 v2 v3 v4 v5 v6 v7 v8 v9 v10 v11 v12 v16 v23 v45 v57 v59 v75 v77 v98 => 
 uSlow .and v5 (.b 7) S fun v99 S =>
 uCvI .i32 v99 S fun v100 S =>
 uSlow .shl v100 (.i .u64 18) S fun v101 S =>
 uSlow .and v10 (.b 63) S fun v102 S =>
 uCvI .i32 v102 S fun v103 S =>
 uSlow .shl v103 (.i .u64 12) S fun v104 S =>
 uSlow .or v101 v104 S fun v105 S =>
 uSlow .and v11 (.b 63) S fun v106 S =>
 uCvI .i32 v106 S fun v107 S =>
 uSlow .shl v107 (.i .u64 6) S fun v108 S =>
 uSlow .or v105 v108 S fun v109 S =>
 uSlow .and v12 (.b 63) S fun v110 S =>
 uCvI .i32 v110 S fun v111 S =>
 uSlow .or v109 v111 S fun v112 S =>
 κ .normal (.mk v0 v112 (.n 4) v4 v5 v6 v7 v8 v9 v10 v11 v12 v16 v23 v45 v57 v59 v75 v77 v98) S) v
def u168r (v : W20) (S : FAW) : RU := W20.rec (motive := fun _ => RU) (fun v0 v2 v3 v4 v5 v6 v7 v8 v9 v10 v11 v12 v16 v23 v45 v57 v59 v75 v77 v98 => .ok (.u [v2, v3]) S) v
def u168 : Fu := fun C n args S => (seqU (u168_0 C) (seqU (u168_1 C) (seqU (seqU (u168_2 C) (condU u168_3 (seqU (u168_4 C) (retU)) (skipU))) (seqU (u168_5 C) (seqU (u168_6 C) (seqU (seqU (u168_7 C) (condU u168_8 (seqU (u168_9 C) (seqU (u168_10 C) (retU))) (skipU))) (seqU (u168_11 C) (seqU (u168_12 C) (seqU (seqU (u168_13 C) (condU u168_14 (seqU (u168_15 C) (retU)) (skipU))) (seqU (u168_16 C) (seqU (seqU (u168_17 C) (condU u168_18 (seqU (u168_19 C) (retU)) (skipU))) (seqU (seqU (u168_20 C) (condU u168_21 (seqU (u168_22 C) (retU)) (skipU))) (seqU (u168_23 C) (seqU (seqU (u168_24 C) (condU u168_25 (seqU (u168_26 C) (retU)) (skipU))) (seqU (seqU (u168_27 C) (condU u168_28 (seqU (u168_29 C) (retU)) (skipU))) (seqU (u168_30 C) (seqU (seqU (u168_31 C) (condU u168_32 (seqU (u168_33 C) (retU)) (skipU))) (seqU (u168_34 C) (retU)))))))))))))))))) : CdU W20) (.mk (argU args 0) (argU args 2) (argU args 3) (argU args 4) (argU args 5) (argU args 6) (argU args 7) (argU args 8) (argU args 9) (argU args 10) (argU args 11) (argU args 12) (argU args 16) (argU args 23) (argU args 45) (argU args 57) (argU args 59) (argU args 75) (argU args 77) (argU args 98)) S fun o v S => exU o (u168r v S) (fun _ => .no) (u168r v S)
end
end Go.Proofs.YtkcafoogpbopiaaGreatDoor.Ev
