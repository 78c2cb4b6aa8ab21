/- Functions of the program, each told by what goes on behind each step: printed by a program of ours. -/
import Derived.Test.YtkcafoogpbopiaaGreatDoorAliasX
import Derived.Test.YtkcafoogpbopiaaGreatDoorAliasW
namespace Go.Proofs.YtkcafoogpbopiaaGreatDoor.Ev
open Go Go.RowKit
set_option linter.unusedVariables false
noncomputable section
/-! assayer/assayerlaw11.AliasChain -/
def u4_0 (C : CU) : CdU W24 := fun v S κ => W24.rec (motive := fun _ => RU) (fun v0 v1 v2 v6 v7 v8 v9 v10 v11 v12 v13 v16 v17 v18 v19 v20 v22 v29 v41 v44 v58 v85 v95 v111 => 
 κ .normal (.mk v0 v1 v2 (.t false) v7 v8 v9 v10 v11 v12 v13 v16 v17 v18 v19 v20 v22 v29 v41 v44 v58 v85 v95 v111) S) v
def u4_1 (C : CU) : CdU W24 := fun v S κ => W24.rec (motive := fun _ => RU) (fun v0 v1 v2 v6 v7 v8 v9 v10 v11 v12 v13 v16 v17 v18 v19 v20 v22 v29 v41 v44 v58 v85 v95 v111 => 
 uCall C 8 [] S fun v112 S =>
 uNot v112 S fun v113 S =>
 κ .normal (.mk v0 v1 v2 v6 v7 v8 v9 v10 v11 v12 v13 v16 v17 v18 v19 v20 v113 v29 v41 v44 v58 v85 v95 v111) S) v
def u4_2 : W24 → FV := fun v => W24.rec (motive := fun _ => FV) (fun v0 v1 v2 v6 v7 v8 v9 v10 v11 v12 v13 v16 v17 v18 v19 v20 v22 v29 v41 v44 v58 v85 v95 v111 => v22) v
def u4_3 (C : CU) : CdU W24 := fun v S κ => W24.rec (motive := fun _ => RU) (fun v0 v1 v2 v6 v7 v8 v9 v10 v11 v12 v13 v16 v17 v18 v19 v20 v22 v29 v41 v44 v58 v85 v95 v111 => 
 κ .normal (.mk v0 v1 v2 (.t false) v7 v8 v9 v10 v11 v12 v13 v16 v17 v18 v19 v20 v22 v29 v41 v44 v58 v85 v95 v111) S) v
def u4_4 (C : CU) : CdU W24 := fun v S κ => W24.rec (motive := fun _ => RU) (fun v0 v1 v2 v6 v7 v8 v9 v10 v11 v12 v13 v16 v17 v18 v19 v20 v22 v29 v41 v44 v58 v85 v95 v111 => 
 uQuo false .rem v0 (.b 8) S fun v112 S =>
 uCvI .i64 v112 S fun v113 S =>
 uAdd (.n 1) v113 S fun v114 S =>
 κ .normal (.mk v0 v1 v2 v6 v114 v8 v9 v10 v11 v12 v13 v16 v17 v18 v19 v20 v22 v29 v41 v44 v58 v85 v95 v111) S) v
def u4_5 (C : CU) : CdU W24 := fun v S κ => W24.rec (motive := fun _ => RU) (fun v0 v1 v2 v6 v7 v8 v9 v10 v11 v12 v13 v16 v17 v18 v19 v20 v22 v29 v41 v44 v58 v85 v95 v111 => 
 κ .normal (.mk v0 v1 v2 v6 v7 (.s [97, 98, 99, 100, 101, 102, 103, 104, 105]) v9 v10 v11 v12 v13 v16 v17 v18 v19 v20 v22 v29 v41 v44 v58 v85 v95 v111) S) v
def u4_6 (C : CU) : CdU W24 := fun v S κ => W24.rec (motive := fun _ => RU) (fun v0 v1 v2 v6 v7 v8 v9 v10 v11 v12 v13 v16 v17 v18 v19 v20 v22 v29 v41 v44 v58 v85 v95 v111 => 
 κ .normal (.mk v0 v1 v2 v6 v7 v8 (.s []) v10 v11 v12 v13 v16 v17 v18 v19 v20 v22 v29 v41 v44 v58 v85 v95 v111) S) v
def u4_7 (C : CU) : CdU W24 := fun v S κ => W24.rec (motive := fun _ => RU) (fun v0 v1 v2 v6 v7 v8 v9 v10 v11 v12 v13 v16 v17 v18 v19 v20 v22 v29 v41 v44 v58 v85 v95 v111 => 
 κ .normal (.mk v0 v1 v2 v6 v7 v8 v9 (.n 0) v11 v12 v13 v16 v17 v18 v19 v20 v22 v29 v41 v44 v58 v85 v95 v111) S) v
def u4_8 (C : CU) : CdU W24 := fun v S κ => W24.rec (motive := fun _ => RU) (fun v0 v1 v2 v6 v7 v8 v9 v10 v11 v12 v13 v16 v17 v18 v19 v20 v22 v29 v41 v44 v58 v85 v95 v111 => 
 uCmp ltN .lss v10 v7 S fun v112 S =>
 κ .normal (.mk v0 v1 v2 v6 v7 v8 v9 v10 v11 v12 v13 v16 v17 v18 v19 v20 v22 v112 v41 v44 v58 v85 v95 v111) S) v
def u4_9 : W24 → FV := fun v => W24.rec (motive := fun _ => FV) (fun v0 v1 v2 v6 v7 v8 v9 v10 v11 v12 v13 v16 v17 v18 v19 v20 v22 v29 v41 v44 v58 v85 v95 v111 => v29) v
def u4_10 (C : CU) : CdU W24 := fun v S κ => W24.rec (motive := fun _ => RU) (fun v0 v1 v2 v6 v7 v8 v9 v10 v11 v12 v13 v16 v17 v18 v19 v20 v22 v29 v41 v44 v58 v85 v95 v111 => 
 uAdd v10 (.n 1) S fun v112 S =>
 uAdd v10 (.n 2) S fun v113 S =>
 uSlS v8 (some v112) (some v113) S fun v114 S =>
 κ .normal (.mk v0 v1 v2 v6 v7 v8 v9 v10 v114 v12 v13 v16 v17 v18 v19 v20 v22 v29 v41 v44 v58 v85 v95 v111) S) v
def u4_11 (C : CU) : CdU W24 := fun v S κ => W24.rec (motive := fun _ => RU) (fun v0 v1 v2 v6 v7 v8 v9 v10 v11 v12 v13 v16 v17 v18 v19 v20 v22 v29 v41 v44 v58 v85 v95 v111 => 
 uSub v7 (.n 1) S fun v112 S =>
 uEq false .eql v10 v112 S fun v113 S =>
 κ .normal (.mk v0 v1 v2 v6 v7 v8 v9 v10 v11 v12 v13 v16 v17 v18 v19 v20 v22 v29 v113 v44 v58 v85 v95 v111) S) v
def u4_12 : W24 → FV := fun v => W24.rec (motive := fun _ => FV) (fun v0 v1 v2 v6 v7 v8 v9 v10 v11 v12 v13 v16 v17 v18 v19 v20 v22 v29 v41 v44 v58 v85 v95 v111 => v41) v
def u4_13 (C : CU) : CdU W24 := fun v S κ => W24.rec (motive := fun _ => RU) (fun v0 v1 v2 v6 v7 v8 v9 v10 v11 v12 v13 v16 v17 v18 v19 v20 v22 v29 v41 v44 v58 v85 v95 v111 => 
 κ .normal (.mk v0 v1 v2 v6 v7 v8 v9 v10 (.s [105, 51, 50]) v12 v13 v16 v17 v18 v19 v20 v22 v29 v41 v44 v58 v85 v95 v111) S) v
def u4_14 (C : CU) : CdU W24 := fun v S κ => W24.rec (motive := fun _ => RU) (fun v0 v1 v2 v6 v7 v8 v9 v10 v11 v12 v13 v16 v17 v18 v19 v20 v22 v29 v41 v44 v58 v85 v95 v111 => 
 uQuo false .rem v1 (.b 3) S fun v112 S =>
 uEq false .eql v112 (.b 0) S fun v113 S =>
 κ .normal (.mk v0 v1 v2 v6 v7 v8 v9 v10 v11 v12 v13 v16 v17 v18 v19 v20 v22 v29 v41 v113 v58 v85 v95 v111) S) v
def u4_15 : W24 → FV := fun v => W24.rec (motive := fun _ => FV) (fun v0 v1 v2 v6 v7 v8 v9 v10 v11 v12 v13 v16 v17 v18 v19 v20 v22 v29 v41 v44 v58 v85 v95 v111 => v44) v
def u4_16 (C : CU) : CdU W24 := fun v S κ => W24.rec (motive := fun _ => RU) (fun v0 v1 v2 v6 v7 v8 v9 v10 v11 v12 v13 v16 v17 v18 v19 v20 v22 v29 v41 v44 v58 v85 v95 v111 => 
 uQuo true .quo v1 (.b 3) S fun v112 S =>
 uCvI .i64 v112 S fun v113 S =>
 uQuo false .rem v113 v7 S fun v114 S =>
 uQuo true .quo v1 (.b 3) S fun v115 S =>
 uCvI .i64 v115 S fun v116 S =>
 uQuo false .rem v116 v7 S fun v117 S =>
 uAdd v117 (.n 1) S fun v118 S =>
 uSlS v8 (some v114) (some v118) S fun v119 S =>
 κ .normal (.mk v0 v1 v2 v6 v7 v8 v9 v10 v119 v12 v13 v16 v17 v18 v19 v20 v22 v29 v41 v44 v58 v85 v95 v111) S) v
def u4_17 (C : CU) : CdU W24 := fun v S κ => W24.rec (motive := fun _ => RU) (fun v0 v1 v2 v6 v7 v8 v9 v10 v11 v12 v13 v16 v17 v18 v19 v20 v22 v29 v41 v44 v58 v85 v95 v111 => 
 κ .normal (.mk v0 v1 v2 v6 v7 v8 v9 v10 v11 v12 v13 v16 v17 v18 v19 v20 v22 v29 v41 v44 v2 v85 v95 v111) S) v
def u4_18 : W24 → FV := fun v => W24.rec (motive := fun _ => FV) (fun v0 v1 v2 v6 v7 v8 v9 v10 v11 v12 v13 v16 v17 v18 v19 v20 v22 v29 v41 v44 v58 v85 v95 v111 => v58) v
def u4_19 (C : CU) : CdU W24 := fun v S κ => W24.rec (motive := fun _ => RU) (fun v0 v1 v2 v6 v7 v8 v9 v10 v11 v12 v13 v16 v17 v18 v19 v20 v22 v29 v41 v44 v58 v85 v95 v111 => 
 uAdd (.s [108, 105, 115, 116, 60]) v11 S fun v112 S =>
 uAdd v112 (.s [62]) S fun v113 S =>
 κ .normal (.mk v0 v1 v2 v6 v7 v8 v9 v10 v113 v12 v13 v16 v17 v18 v19 v20 v22 v29 v41 v44 v58 v85 v95 v111) S) v
def u4_20 (C : CU) : CdU W24 := fun v S κ => W24.rec (motive := fun _ => RU) (fun v0 v1 v2 v6 v7 v8 v9 v10 v11 v12 v13 v16 v17 v18 v19 v20 v22 v29 v41 v44 v58 v85 v95 v111 => 
 uAdd (.s [116, 121, 112, 101, 100, 101, 102, 32]) v11 S fun v112 S =>
 uAdd v112 (.s [32]) S fun v113 S =>
 uAdd v10 (.n 1) S fun v114 S =>
 uSlS v8 (some v10) (some v114) S fun v115 S =>
 uAdd v113 v115 S fun v116 S =>
 uAdd v116 (.s [10]) S fun v117 S =>
 uAdd v117 v9 S fun v118 S =>
 κ .normal (.mk v0 v1 v2 v6 v7 v8 v118 v10 v11 v12 v13 v16 v17 v18 v19 v20 v22 v29 v41 v44 v58 v85 v95 v111) S) v
def u4_21 (C : CU) : CdU W24 := fun v S κ => W24.rec (motive := fun _ => RU) (fun v0 v1 v2 v6 v7 v8 v9 v10 v11 v12 v13 v16 v17 v18 v19 v20 v22 v29 v41 v44 v58 v85 v95 v111 => 
 uAdd v10 (.n 1) S fun v112 S =>
 κ .normal (.mk v0 v1 v2 v6 v7 v8 v9 v112 v11 v12 v13 v16 v17 v18 v19 v20 v22 v29 v41 v44 v58 v85 v95 v111) S) v
def u4_22 (C : CU) (n : Nat) : CdU W24 := seqU (seqU (u4_8 C) (condU u4_9 (skipU) (exitU 0))) (seqU (blockU 1 (seqU (u4_10 C) (seqU (seqU (u4_11 C) (condU u4_12 (seqU (u4_13 C) (seqU (u4_14 C) (condU u4_15 (u4_16 C) (skipU)))) (skipU))) (seqU (seqU (u4_17 C) (condU u4_18 (u4_19 C) (skipU))) (u4_20 C))))) (u4_21 C))
def u4_23 (C : CU) : CdU W24 := fun v S κ => W24.rec (motive := fun _ => RU) (fun v0 v1 v2 v6 v7 v8 v9 v10 v11 v12 v13 v16 v17 v18 v19 v20 v22 v29 v41 v44 v58 v85 v95 v111 => 
 uBuildF [(.s []), (.s [])] [(0, 1, (.s [120])), (1, 1, v9)] S fun v112 S =>
 uLitF 46 2 [(.s []), (.s [])] 1 [(0, 2, v112)] S fun v113 S =>
 uBuildF [(.s []), .nl] [(0, 1, (.s [120])), (1, 1, v113)] S fun v114 S =>
 uCall C 9 [v114] S fun v115 S =>
 uExt 0 v115 S fun v116 S =>
 uExt 1 v115 S fun v117 S =>
 uExt 2 v115 S fun v118 S =>
 uExt 3 v115 S fun v119 S =>
 uNewF 27 2 [.nl, .nl] S fun v120 S =>
 uSt 2 v120 v116 S fun v121 S =>
 κ .normal (.mk v0 v1 v2 v6 v7 v8 v9 v10 v11 v120 v117 v16 v17 v18 v19 v20 v22 v29 v41 v44 v58 v85 v95 v111) S) v
def u4_24 (C : CU) : CdU W24 := fun v S κ => W24.rec (motive := fun _ => RU) (fun v0 v1 v2 v6 v7 v8 v9 v10 v11 v12 v13 v16 v17 v18 v19 v20 v22 v29 v41 v44 v58 v85 v95 v111 => 
 uEq true .neq v13 (.n 0) S fun v112 S =>
 κ .normal (.mk v0 v1 v2 v6 v7 v8 v9 v10 v11 v12 v13 v16 v17 v18 v19 v20 v22 v29 v41 v44 v58 v112 v95 v111) S) v
def u4_25 : W24 → FV := fun v => W24.rec (motive := fun _ => FV) (fun v0 v1 v2 v6 v7 v8 v9 v10 v11 v12 v13 v16 v17 v18 v19 v20 v22 v29 v41 v44 v58 v85 v95 v111 => v85) v
def u4_26 (C : CU) : CdU W24 := fun v S κ => W24.rec (motive := fun _ => RU) (fun v0 v1 v2 v6 v7 v8 v9 v10 v11 v12 v13 v16 v17 v18 v19 v20 v22 v29 v41 v44 v58 v85 v95 v111 => 
 κ .normal (.mk v0 v1 v2 (.t false) v7 v8 v9 v10 v11 v12 v13 v16 v17 v18 v19 v20 v22 v29 v41 v44 v58 v85 v95 v111) S) v
def u4_27 (C : CU) : CdU W24 := fun v S κ => W24.rec (motive := fun _ => RU) (fun v0 v1 v2 v6 v7 v8 v9 v10 v11 v12 v13 v16 v17 v18 v19 v20 v22 v29 v41 v44 v58 v85 v95 v111 => 
 uLd (some 2) v12 S fun v112 S =>
 uCall C 12 [v112] S fun v113 S =>
 uCall C 13 [v113, (.s [120]), (.s [97])] S fun v114 S =>
 uExt 0 v114 S fun v115 S =>
 uExt 1 v114 S fun v116 S =>
 uExt 2 v114 S fun v117 S =>
 κ .normal (.mk v0 v1 v2 v6 v7 v8 v9 v10 v11 v12 v13 v115 v116 v117 v19 v20 v22 v29 v41 v44 v58 v85 v95 v111) S) v
def u4_28 (C : CU) : CdU W24 := fun v S κ => W24.rec (motive := fun _ => RU) (fun v0 v1 v2 v6 v7 v8 v9 v10 v11 v12 v13 v16 v17 v18 v19 v20 v22 v29 v41 v44 v58 v85 v95 v111 => 
 uQuo false .rem v1 (.b 3) S fun v112 S =>
 uEq false .eql v112 (.b 0) S fun v113 S =>
 κ .normal (.mk v0 v1 v2 v6 v7 v8 v9 v10 v11 v12 v13 v16 v17 v18 v19 v20 v22 v29 v41 v44 v58 v85 v113 v111) S) v
def u4_29 : W24 → FV := fun v => W24.rec (motive := fun _ => FV) (fun v0 v1 v2 v6 v7 v8 v9 v10 v11 v12 v13 v16 v17 v18 v19 v20 v22 v29 v41 v44 v58 v85 v95 v111 => v95) v
def u4_30 (C : CU) : CdU W24 := fun v S κ => W24.rec (motive := fun _ => RU) (fun v0 v1 v2 v6 v7 v8 v9 v10 v11 v12 v13 v16 v17 v18 v19 v20 v22 v29 v41 v44 v58 v85 v95 v111 => 
 uEq false .eql v18 (.n 9) S fun v112 S =>
 eT v112 fun b => cn b
 (uEq false .eql v16 (.s []) S fun v113 S =>
 eT v113 fun b => cn b
 (uEq false .eql v17 (.n 0) S fun v114 S =>
 κ .normal (.mk v0 v1 v2 v114 v7 v8 v9 v10 v11 v12 v13 v16 v17 v18 v19 v20 v22 v29 v41 v44 v58 v85 v95 v111) S)
 (κ .normal (.mk v0 v1 v2 (.t false) v7 v8 v9 v10 v11 v12 v13 v16 v17 v18 v19 v20 v22 v29 v41 v44 v58 v85 v95 v111) S))
 (κ .normal (.mk v0 v1 v2 (.t false) v7 v8 v9 v10 v11 v12 v13 v16 v17 v18 v19 v20 v22 v29 v41 v44 v58 v85 v95 v111) S)) v
def u4_31 (C : CU) : CdU W24 := fun v S κ => W24.rec (motive := fun _ => RU) (fun v0 v1 v2 v6 v7 v8 v9 v10 v11 v12 v13 v16 v17 v18 v19 v20 v22 v29 v41 v44 v58 v85 v95 v111 => 
 κ .normal (.mk v0 v1 v2 v6 v7 v8 v9 v10 v11 v12 v13 v16 v17 v18 (.s [105, 51, 50]) v20 v22 v29 v41 v44 v58 v85 v95 v111) S) v
def u4_32 (C : CU) : CdU W24 := fun v S κ => W24.rec (motive := fun _ => RU) (fun v0 v1 v2 v6 v7 v8 v9 v10 v11 v12 v13 v16 v17 v18 v19 v20 v22 v29 v41 v44 v58 v85 v95 v111 => 
 κ .normal (.mk v0 v1 v2 v6 v7 v8 v9 v10 v11 v12 v13 v16 v17 v18 v19 (.n 0) v22 v29 v41 v44 v58 v85 v95 v111) S) v
def u4_33 (C : CU) : CdU W24 := fun v S κ => W24.rec (motive := fun _ => RU) (fun v0 v1 v2 v6 v7 v8 v9 v10 v11 v12 v13 v16 v17 v18 v19 v20 v22 v29 v41 v44 v58 v85 v95 v111 => 
 eT v2 fun b => cn b
 (uCmp ltN .lss v20 v7 S fun v112 S =>
 κ .normal (.mk v0 v1 v2 v6 v7 v8 v9 v10 v11 v12 v13 v16 v17 v18 v19 v20 v22 v29 v41 v44 v58 v85 v95 v112) S)
 (κ .normal (.mk v0 v1 v2 v6 v7 v8 v9 v10 v11 v12 v13 v16 v17 v18 v19 v20 v22 v29 v41 v44 v58 v85 v95 (.t false)) S)) v
def u4_34 : W24 → FV := fun v => W24.rec (motive := fun _ => FV) (fun v0 v1 v2 v6 v7 v8 v9 v10 v11 v12 v13 v16 v17 v18 v19 v20 v22 v29 v41 v44 v58 v85 v95 v111 => v111) v
def u4_35 (C : CU) : CdU W24 := fun v S κ => W24.rec (motive := fun _ => RU) (fun v0 v1 v2 v6 v7 v8 v9 v10 v11 v12 v13 v16 v17 v18 v19 v20 v22 v29 v41 v44 v58 v85 v95 v111 => 
 uAdd (.s [108, 105, 115, 116, 60]) v19 S fun v112 S =>
 uAdd v112 (.s [62]) S fun v113 S =>
 κ .normal (.mk v0 v1 v2 v6 v7 v8 v9 v10 v11 v12 v13 v16 v17 v18 v113 v20 v22 v29 v41 v44 v58 v85 v95 v111) S) v
def u4_36 (C : CU) : CdU W24 := fun v S κ => W24.rec (motive := fun _ => RU) (fun v0 v1 v2 v6 v7 v8 v9 v10 v11 v12 v13 v16 v17 v18 v19 v20 v22 v29 v41 v44 v58 v85 v95 v111 => 
 uAdd v20 (.n 1) S fun v112 S =>
 κ .normal (.mk v0 v1 v2 v6 v7 v8 v9 v10 v11 v12 v13 v16 v17 v18 v19 v112 v22 v29 v41 v44 v58 v85 v95 v111) S) v
def u4_37 (C : CU) (n : Nat) : CdU W24 := seqU (seqU (u4_33 C) (condU u4_34 (skipU) (exitU 2))) (seqU (blockU 3 (u4_35 C)) (u4_36 C))
def u4_38 (C : CU) : CdU W24 := fun v S κ => W24.rec (motive := fun _ => RU) (fun v0 v1 v2 v6 v7 v8 v9 v10 v11 v12 v13 v16 v17 v18 v19 v20 v22 v29 v41 v44 v58 v85 v95 v111 => 
 uEq false .eql v18 (.n 0) S fun v112 S =>
 eT v112 fun b => cn b
 (uEq false .eql v16 v19 S fun v113 S =>
 eT v113 fun b => cn b
 (uEq false .eql v17 (.n 15) S fun v114 S =>
 uEqB false v114 v2 S fun v115 S =>
 κ .normal (.mk v0 v1 v2 v115 v7 v8 v9 v10 v11 v12 v13 v16 v17 v18 v19 v20 v22 v29 v41 v44 v58 v85 v95 v111) S)
 (κ .normal (.mk v0 v1 v2 (.t false) v7 v8 v9 v10 v11 v12 v13 v16 v17 v18 v19 v20 v22 v29 v41 v44 v58 v85 v95 v111) S))
 (κ .normal (.mk v0 v1 v2 (.t false) v7 v8 v9 v10 v11 v12 v13 v16 v17 v18 v19 v20 v22 v29 v41 v44 v58 v85 v95 v111) S)) v
def u4r (v : W24) (S : FAW) : RU := W24.rec (motive := fun _ => RU) (fun v0 v1 v2 v6 v7 v8 v9 v10 v11 v12 v13 v16 v17 v18 v19 v20 v22 v29 v41 v44 v58 v85 v95 v111 => .ok v6 S) v
def u4 : Fu := fun C n args S => (seqU (u4_0 C) (seqU (seqU (u4_1 C) (condU u4_2 (seqU (u4_3 C) (retU)) (skipU))) (seqU (u4_4 C) (seqU (u4_5 C) (seqU (u4_6 C) (seqU (seqU (u4_7 C) (blockU 0 (loopU n (u4_22 C n)))) (seqU (u4_23 C) (seqU (seqU (u4_24 C) (condU u4_25 (seqU (u4_26 C) (retU)) (skipU))) (seqU (u4_27 C) (seqU (seqU (u4_28 C) (condU u4_29 (seqU (u4_30 C) (retU)) (skipU))) (seqU (u4_31 C) (seqU (seqU (u4_32 C) (blockU 2 (loopU n (u4_37 C n)))) (seqU (u4_38 C) (retU))))))))))))) : CdU W24) (.mk (argU args 0) (argU args 1) (argU args 2) (argU args 6) (argU args 7) (argU args 8) (argU args 9) (argU args 10) (argU args 11) (argU args 12) (argU args 13) (argU args 16) (argU args 17) (argU args 18) (argU args 19) (argU args 20) (argU args 22) (argU args 29) (argU args 41) (argU args 44) (argU args 58) (argU args 85) (argU args 95) (argU args 111)) S fun o v S => exU o (u4r v S) (fun _ => .no) (u4r v S)
/-! assayer/assayerlaw11.AliasForms -/
def u6_0 (C : CU) : CdU W15 := fun v S κ => W15.rec (motive := fun _ => RU) (fun v0 v1 v2 v3 v6 v7 v8 v9 v10 v11 v13 v15 v27 v36 v62 => 
 κ .normal (.mk (.t false) v1 v2 v3 v6 v7 v8 v9 v10 v11 v13 v15 v27 v36 v62) S) v
def u6_1 (C : CU) : CdU W15 := fun v S κ => W15.rec (motive := fun _ => RU) (fun v0 v1 v2 v3 v6 v7 v8 v9 v10 v11 v13 v15 v27 v36 v62 => 
 uCall C 8 [] S fun v63 S =>
 uNot v63 S fun v64 S =>
 κ .normal (.mk v0 v1 v2 v3 v6 v7 v8 v9 v10 v11 v13 v64 v27 v36 v62) S) v
def u6_2 : W15 → FV := fun v => W15.rec (motive := fun _ => FV) (fun v0 v1 v2 v3 v6 v7 v8 v9 v10 v11 v13 v15 v27 v36 v62 => v15) v
def u6_3 (C : CU) : CdU W15 := fun v S κ => W15.rec (motive := fun _ => RU) (fun v0 v1 v2 v3 v6 v7 v8 v9 v10 v11 v13 v15 v27 v36 v62 => 
 κ .normal (.mk (.t false) v1 v2 v3 v6 v7 v8 v9 v10 v11 v13 v15 v27 v36 v62) S) v
def u6_4 (C : CU) : CdU W15 := fun v S κ => W15.rec (motive := fun _ => RU) (fun v0 v1 v2 v3 v6 v7 v8 v9 v10 v11 v13 v15 v27 v36 v62 => 
 κ .normal (.mk v0 (.s [116, 121, 112, 101, 100, 101, 102, 32, 105, 51, 50, 32, 73, 32, 116, 121, 112, 101, 100, 101, 102, 32, 108, 105, 115, 116, 60, 73, 62, 32, 76, 32, 116, 121, 112, 101, 100, 101, 102, 32, 109, 97, 112, 60, 73, 44, 76, 62, 32, 77, 32, 116, 121, 112, 101, 100, 101, 102, 32, 115, 101, 116, 60, 69, 62, 32, 83, 32, 116, 121, 112, 101, 100, 101, 102, 32, 77, 32, 78, 32, 101, 110, 117, 109, 32, 69, 32, 123, 65, 125, 32, 115, 116, 114, 117, 99, 116, 32, 80, 32, 123, 125, 32, 99, 111, 110, 115, 116, 32, 105, 51, 50, 32, 75, 32, 61, 32, 49, 32, 115, 101, 114, 118, 105, 99, 101, 32, 86, 32, 123, 125, 32, 116, 121, 112, 101, 100, 101, 102, 32, 88, 32, 89, 32, 116, 121, 112, 101, 100, 101, 102, 32, 89, 32, 88, 32, 116, 121, 112, 101, 100, 101, 102, 32, 108, 105, 115, 116, 60, 108, 105, 115, 116, 60, 108, 105, 115, 116, 60, 108, 105, 115, 116, 60, 108, 105, 115, 116, 60, 108, 105, 115, 116, 60, 108, 105, 115, 116, 60, 105, 56, 62, 62, 62, 62, 62, 62, 62, 32, 68]) v2 v3 v6 v7 v8 v9 v10 v11 v13 v15 v27 v36 v62) S) v
def u6_5 (C : CU) : CdU W15 := fun v S κ => W15.rec (motive := fun _ => RU) (fun v0 v1 v2 v3 v6 v7 v8 v9 v10 v11 v13 v15 v27 v36 v62 => 
 uBuildF [(.s []), (.s [])] [(0, 1, (.s [97])), (1, 1, v1)] S fun v63 S =>
 uLitF 46 2 [(.s []), (.s [])] 1 [(0, 2, v63)] S fun v64 S =>
 uBuildF [(.s []), .nl] [(0, 1, (.s [97])), (1, 1, v64)] S fun v65 S =>
 uCall C 9 [v65] S fun v66 S =>
 uExt 0 v66 S fun v67 S =>
 uExt 1 v66 S fun v68 S =>
 uExt 2 v66 S fun v69 S =>
 uExt 3 v66 S fun v70 S =>
 uNewF 27 2 [.nl, .nl] S fun v71 S =>
 uSt 2 v71 v67 S fun v72 S =>
 κ .normal (.mk v0 v1 v71 v68 v6 v7 v8 v9 v10 v11 v13 v15 v27 v36 v62) S) v
def u6_6 (C : CU) : CdU W15 := fun v S κ => W15.rec (motive := fun _ => RU) (fun v0 v1 v2 v3 v6 v7 v8 v9 v10 v11 v13 v15 v27 v36 v62 => 
 uEq true .neq v3 (.n 0) S fun v63 S =>
 κ .normal (.mk v0 v1 v2 v3 v6 v7 v8 v9 v10 v11 v13 v15 v63 v36 v62) S) v
def u6_7 : W15 → FV := fun v => W15.rec (motive := fun _ => FV) (fun v0 v1 v2 v3 v6 v7 v8 v9 v10 v11 v13 v15 v27 v36 v62 => v27) v
def u6_8 (C : CU) : CdU W15 := fun v S κ => W15.rec (motive := fun _ => RU) (fun v0 v1 v2 v3 v6 v7 v8 v9 v10 v11 v13 v15 v27 v36 v62 => 
 κ .normal (.mk (.t false) v1 v2 v3 v6 v7 v8 v9 v10 v11 v13 v15 v27 v36 v62) S) v
def u6_9 (C : CU) : CdU W15 := fun v S κ => W15.rec (motive := fun _ => RU) (fun v0 v1 v2 v3 v6 v7 v8 v9 v10 v11 v13 v15 v27 v36 v62 => 
 uLd (some 2) v2 S fun v63 S =>
 uCall C 12 [v63] S fun v64 S =>
 uNewF 37 2 [.nl, .nl] S fun v65 S =>
 uSt 2 v65 v64 S fun v66 S =>
 κ .normal (.mk v0 v1 v2 v3 v65 v7 v8 v9 v10 v11 v13 v15 v27 v36 v62) S) v
def u6_10 (C : CU) : CdU W15 := fun v S κ => W15.rec (motive := fun _ => RU) (fun v0 v1 v2 v3 v6 v7 v8 v9 v10 v11 v13 v15 v27 v36 v62 => 
 uLitF 9 1 [(.s [])] 22 [(0, 1, (.s [73])), (1, 1, (.s [76])), (2, 1, (.s [77])), (3, 1, (.s [78])), (4, 1, (.s [83])), (5, 1, (.s [69])), (6, 1, (.s [80])), (7, 1, (.s [75])), (8, 1, (.s [86])), (9, 1, (.s [88])), (10, 1, (.s [90])), (11, 1, (.s [115, 101, 116, 60, 73, 62])), (12, 1, (.s [115, 101, 116, 60, 76, 62])), (13, 1, (.s [109, 97, 112, 60, 80, 44, 73, 62])), (14, 1, (.s [109, 97, 112, 60, 76, 44, 90, 62])), (15, 1, (.s [109, 97, 112, 60, 90, 44, 76, 62])), (16, 1, (.s [109, 97, 112, 60, 73, 44, 90, 62])), (17, 1, (.s [108, 105, 115, 116, 60, 108, 105, 115, 116, 60, 108, 105, 115, 116, 60, 108, 105, 115, 116, 60, 108, 105, 115, 116, 60, 68, 62, 62, 62, 62, 62])), (18, 1, (.s [108, 105, 115, 116, 60, 108, 105, 115, 116, 60, 108, 105, 115, 116, 60, 108, 105, 115, 116, 60, 108, 105, 115, 116, 60, 108, 105, 115, 116, 60, 68, 62, 62, 62, 62, 62, 62])), (19, 1, (.s [108, 105, 115, 116, 60])), (20, 1, (.s [100, 111, 117, 98, 108, 101])), (21, 1, (.s [97, 46, 73]))] S fun v63 S =>
 κ .normal (.mk v0 v1 v2 v3 v6 v63 v8 v9 v10 v11 v13 v15 v27 v36 v62) S) v
def u6_11 (C : CU) : CdU W15 := fun v S κ => W15.rec (motive := fun _ => RU) (fun v0 v1 v2 v3 v6 v7 v8 v9 v10 v11 v13 v15 v27 v36 v62 => 
 uLitF 9 1 [(.s [])] 22 [(0, 1, (.s [105, 51, 50])), (1, 1, (.s [108, 105, 115, 116, 60, 105, 51, 50, 62])), (2, 1, (.s [109, 97, 112, 60, 105, 51, 50, 44, 108, 105, 115, 116, 60, 105, 51, 50, 62, 62])), (3, 1, (.s [109, 97, 112, 60, 105, 51, 50, 44, 108, 105, 115, 116, 60, 105, 51, 50, 62, 62])), (4, 1, (.s [115, 101, 116, 60, 97, 46, 69, 62])), (5, 1, (.s [97, 46, 69])), (6, 1, (.s [97, 46, 80])), (7, 1, (.s [])), (8, 1, (.s [])), (9, 1, (.s [])), (10, 1, (.s [])), (11, 1, (.s [115, 101, 116, 60, 105, 51, 50, 62])), (12, 1, (.s [])), (13, 1, (.s [])), (14, 1, (.s [])), (15, 1, (.s [])), (16, 1, (.s [])), (17, 1, (.s [108, 105, 115, 116, 60, 108, 105, 115, 116, 60, 108, 105, 115, 116, 60, 108, 105, 115, 116, 60, 108, 105, 115, 116, 60, 108, 105, 115, 116, 60, 108, 105, 115, 116, 60, 108, 105, 115, 116, 60, 108, 105, 115, 116, 60, 108, 105, 115, 116, 60, 108, 105, 115, 116, 60, 108, 105, 115, 116, 60, 105, 56, 62, 62, 62, 62, 62, 62, 62, 62, 62, 62, 62, 62])), (18, 1, (.s [])), (19, 1, (.s [])), (20, 1, (.s [100, 111, 117, 98, 108, 101])), (21, 1, (.s [105, 51, 50]))] S fun v63 S =>
 κ .normal (.mk v0 v1 v2 v3 v6 v7 v63 v9 v10 v11 v13 v15 v27 v36 v62) S) v
def u6_12 (C : CU) : CdU W15 := fun v S κ => W15.rec (motive := fun _ => RU) (fun v0 v1 v2 v3 v6 v7 v8 v9 v10 v11 v13 v15 v27 v36 v62 => 
 uLitF 28 1 [(.n 0)] 22 [(0, 1, (.n 0)), (1, 1, (.n 0)), (2, 1, (.n 0)), (3, 1, (.n 0)), (4, 1, (.n 0)), (5, 1, (.n 0)), (6, 1, (.n 0)), (7, 1, (.n 10)), (8, 1, (.n 10)), (9, 1, (.n 9)), (10, 1, (.n 7)), (11, 1, (.n 0)), (12, 1, (.n 11)), (13, 1, (.n 11)), (14, 1, (.n 11)), (15, 1, (.n 7)), (16, 1, (.n 7)), (17, 1, (.n 0)), (18, 1, (.n 6)), (19, 1, (.n 2)), (20, 1, (.n 0)), (21, 1, (.n 0))] S fun v63 S =>
 κ .normal (.mk v0 v1 v2 v3 v6 v7 v8 v63 v10 v11 v13 v15 v27 v36 v62) S) v
def u6_13 (C : CU) : CdU W15 := fun v S κ => W15.rec (motive := fun _ => RU) (fun v0 v1 v2 v3 v6 v7 v8 v9 v10 v11 v13 v15 v27 v36 v62 => 
 κ .normal (.mk v0 v1 v2 v3 v6 v7 v8 v9 (.n 0) v11 v13 v15 v27 v36 v62) S) v
def u6_14 (C : CU) : CdU W15 := fun v S κ => W15.rec (motive := fun _ => RU) (fun v0 v1 v2 v3 v6 v7 v8 v9 v10 v11 v13 v15 v27 v36 v62 => 
 uLen false v7 S fun v63 S =>
 uCmp ltN .lss v10 v63 S fun v64 S =>
 κ .normal (.mk v0 v1 v2 v3 v6 v7 v8 v9 v10 v11 v13 v15 v27 v64 v62) S) v
def u6_15 : W15 → FV := fun v => W15.rec (motive := fun _ => FV) (fun v0 v1 v2 v3 v6 v7 v8 v9 v10 v11 v13 v15 v27 v36 v62 => v36) v
def u6_16 (C : CU) : CdU W15 := fun v S κ => W15.rec (motive := fun _ => RU) (fun v0 v1 v2 v3 v6 v7 v8 v9 v10 v11 v13 v15 v27 v36 v62 => 
 uLd (some 2) v6 S fun v63 S =>
 uIad 1 v7 v10 S fun v64 S =>
 uLd none v64 S fun v65 S =>
 uCall C 13 [v63, (.s [97]), v65] S fun v66 S =>
 uExt 0 v66 S fun v67 S =>
 uExt 1 v66 S fun v68 S =>
 uExt 2 v66 S fun v69 S =>
 κ .normal (.mk v0 v1 v2 v3 v6 v7 v8 v9 v10 v67 v69 v15 v27 v36 v62) S) v
def u6_17 (C : CU) : CdU W15 := fun v S κ => W15.rec (motive := fun _ => RU) (fun v0 v1 v2 v3 v6 v7 v8 v9 v10 v11 v13 v15 v27 v36 v62 => 
 uIad 1 v8 v10 S fun v63 S =>
 uLd none v63 S fun v64 S =>
 uEq true .neq v11 v64 S fun v65 S =>
 eT v65 fun b => cn b
 (κ .normal (.mk v0 v1 v2 v3 v6 v7 v8 v9 v10 v11 v13 v15 v27 v36 (.t true)) S)
 (uIad 1 v9 v10 S fun v66 S =>
 uLd none v66 S fun v67 S =>
 uEq true .neq v13 v67 S fun v68 S =>
 κ .normal (.mk v0 v1 v2 v3 v6 v7 v8 v9 v10 v11 v13 v15 v27 v36 v68) S)) v
def u6_18 : W15 → FV := fun v => W15.rec (motive := fun _ => FV) (fun v0 v1 v2 v3 v6 v7 v8 v9 v10 v11 v13 v15 v27 v36 v62 => v62) v
def u6_19 (C : CU) : CdU W15 := fun v S κ => W15.rec (motive := fun _ => RU) (fun v0 v1 v2 v3 v6 v7 v8 v9 v10 v11 v13 v15 v27 v36 v62 => 
 κ .normal (.mk (.t false) v1 v2 v3 v6 v7 v8 v9 v10 v11 v13 v15 v27 v36 v62) S) v
def u6_20 (C : CU) : CdU W15 := fun v S κ => W15.rec (motive := fun _ => RU) (fun v0 v1 v2 v3 v6 v7 v8 v9 v10 v11 v13 v15 v27 v36 v62 => 
 uAdd v10 (.n 1) S fun v63 S =>
 κ .normal (.mk v0 v1 v2 v3 v6 v7 v8 v9 v63 v11 v13 v15 v27 v36 v62) S) v
def u6_21 (C : CU) (n : Nat) : CdU W15 := seqU (seqU (u6_14 C) (condU u6_15 (skipU) (exitU 0))) (seqU (blockU 1 (seqU (u6_16 C) (seqU (u6_17 C) (condU u6_18 (seqU (u6_19 C) (retU)) (skipU))))) (u6_20 C))
def u6_22 (C : CU) : CdU W15 := fun v S κ => W15.rec (motive := fun _ => RU) (fun v0 v1 v2 v3 v6 v7 v8 v9 v10 v11 v13 v15 v27 v36 v62 => 
 uLd (some 2) v6 S fun v63 S =>
 uCall C 15 [v63, (.s [97, 46, 69])] S fun v64 S =>
 eT v64 fun b => cn b
 (uLd (some 2) v6 S fun v65 S =>
 uCall C 15 [v65, (.s [100, 111, 117, 98, 108, 101])] S fun v66 S =>
 eT v66 fun b => cn b
 (uLd (some 2) v6 S fun v67 S =>
 uCall C 15 [v67, (.s [108, 105, 115, 116, 60, 105, 56, 62])] S fun v68 S =>
 uNot v68 S fun v69 S =>
 eT v69 fun b => cn b
 (uLd (some 2) v6 S fun v70 S =>
 uCall C 15 [v70, (.s [97, 46, 110, 111, 110, 101])] S fun v71 S =>
 uNot v71 S fun v72 S =>
 eT v72 fun b => cn b
 (uLd (some 2) v6 S fun v73 S =>
 uCall C 15 [v73, (.s [60])] S fun v74 S =>
 uNot v74 S fun v75 S =>
 κ .normal (.mk v75 v1 v2 v3 v6 v7 v8 v9 v10 v11 v13 v15 v27 v36 v62) S)
 (κ .normal (.mk (.t false) v1 v2 v3 v6 v7 v8 v9 v10 v11 v13 v15 v27 v36 v62) S))
 (κ .normal (.mk (.t false) v1 v2 v3 v6 v7 v8 v9 v10 v11 v13 v15 v27 v36 v62) S))
 (κ .normal (.mk (.t false) v1 v2 v3 v6 v7 v8 v9 v10 v11 v13 v15 v27 v36 v62) S))
 (κ .normal (.mk (.t false) v1 v2 v3 v6 v7 v8 v9 v10 v11 v13 v15 v27 v36 v62) S)) v
def u6r (v : W15) (S : FAW) : RU := W15.rec (motive := fun _ => RU) (fun v0 v1 v2 v3 v6 v7 v8 v9 v10 v11 v13 v15 v27 v36 v62 => .ok v0 S) v
def u6 : Fu := fun C n args S => (seqU (u6_0 C) (seqU (seqU (u6_1 C) (condU u6_2 (seqU (u6_3 C) (retU)) (skipU))) (seqU (u6_4 C) (seqU (u6_5 C) (seqU (seqU (u6_6 C) (condU u6_7 (seqU (u6_8 C) (retU)) (skipU))) (seqU (u6_9 C) (seqU (u6_10 C) (seqU (u6_11 C) (seqU (u6_12 C) (seqU (seqU (u6_13 C) (blockU 0 (loopU n (u6_21 C n)))) (seqU (u6_22 C) (retU))))))))))) : CdU W15) (.mk (argU args 0) (argU args 1) (argU args 2) (argU args 3) (argU args 6) (argU args 7) (argU args 8) (argU args 9) (argU args 10) (argU args 11) (argU args 13) (argU args 15) (argU args 27) (argU args 36) (argU args 62)) S fun o v S => exU o (u6r v S) (fun _ => .no) (u6r v S)
/-! assayer/assayerlaw11.AliasKeys -/
def u7_0 (C : CU) : CdU W22 := fun v S κ => W22.rec (motive := fun _ => RU) (fun v0 v1 v4 v5 v6 v7 v8 v9 v10 v11 v12 v15 v18 v21 v22 v24 v27 v28 v30 v45 v73 v111 => 
 κ .normal (.mk v0 v1 (.t false) v5 v6 v7 v8 v9 v10 v11 v12 v15 v18 v21 v22 v24 v27 v28 v30 v45 v73 v111) S) v
def u7_1 (C : CU) : CdU W22 := fun v S κ => W22.rec (motive := fun _ => RU) (fun v0 v1 v4 v5 v6 v7 v8 v9 v10 v11 v12 v15 v18 v21 v22 v24 v27 v28 v30 v45 v73 v111 => 
 uCall C 8 [] S fun v112 S =>
 uNot v112 S fun v113 S =>
 κ .normal (.mk v0 v1 v4 v5 v6 v7 v8 v9 v10 v11 v12 v15 v18 v21 v22 v24 v27 v28 v113 v45 v73 v111) S) v
def u7_2 : W22 → FV := fun v => W22.rec (motive := fun _ => FV) (fun v0 v1 v4 v5 v6 v7 v8 v9 v10 v11 v12 v15 v18 v21 v22 v24 v27 v28 v30 v45 v73 v111 => v30) v
def u7_3 (C : CU) : CdU W22 := fun v S κ => W22.rec (motive := fun _ => RU) (fun v0 v1 v4 v5 v6 v7 v8 v9 v10 v11 v12 v15 v18 v21 v22 v24 v27 v28 v30 v45 v73 v111 => 
 κ .normal (.mk v0 v1 (.t false) v5 v6 v7 v8 v9 v10 v11 v12 v15 v18 v21 v22 v24 v27 v28 v30 v45 v73 v111) S) v
def u7_4 (C : CU) : CdU W22 := fun v S κ => W22.rec (motive := fun _ => RU) (fun v0 v1 v4 v5 v6 v7 v8 v9 v10 v11 v12 v15 v18 v21 v22 v24 v27 v28 v30 v45 v73 v111 => 
 uLitF 9 1 [(.s [])] 15 [(0, 1, (.s [98, 111, 111, 108])), (1, 1, (.s [105, 56])), (2, 1, (.s [105, 49, 54])), (3, 1, (.s [105, 51, 50])), (4, 1, (.s [105, 54, 52])), (5, 1, (.s [100, 111, 117, 98, 108, 101])), (6, 1, (.s [115, 116, 114, 105, 110, 103])), (7, 1, (.s [98, 105, 110, 97, 114, 121])), (8, 1, (.s [69])), (9, 1, (.s [80])), (10, 1, (.s [85])), (11, 1, (.s [88])), (12, 1, (.s [108, 105, 115, 116, 60, 105, 56, 62])), (13, 1, (.s [115, 101, 116, 60, 105, 56, 62])), (14, 1, (.s [109, 97, 112, 60, 105, 56, 44, 105, 56, 62]))] S fun v112 S =>
 κ .normal (.mk v0 v1 v4 v112 v6 v7 v8 v9 v10 v11 v12 v15 v18 v21 v22 v24 v27 v28 v30 v45 v73 v111) S) v
def u7_5 (C : CU) : CdU W22 := fun v S κ => W22.rec (motive := fun _ => RU) (fun v0 v1 v4 v5 v6 v7 v8 v9 v10 v11 v12 v15 v18 v21 v22 v24 v27 v28 v30 v45 v73 v111 => 
 uCvI .i64 v0 S fun v112 S =>
 uLen false v5 S fun v113 S =>
 uQuo false .rem v112 v113 S fun v114 S =>
 κ .normal (.mk v0 v1 v4 v5 v114 v7 v8 v9 v10 v11 v12 v15 v18 v21 v22 v24 v27 v28 v30 v45 v73 v111) S) v
def u7_6 (C : CU) : CdU W22 := fun v S κ => W22.rec (motive := fun _ => RU) (fun v0 v1 v4 v5 v6 v7 v8 v9 v10 v11 v12 v15 v18 v21 v22 v24 v27 v28 v30 v45 v73 v111 => 
 κ .normal (.mk v0 v1 v4 v5 v6 (.s [101, 110, 117, 109, 32, 69, 32, 123, 65, 125, 32, 115, 116, 114, 117, 99, 116, 32, 80, 32, 123, 125, 32, 117, 110, 105, 111, 110, 32, 85, 32, 123, 49, 58, 32, 105, 56, 32, 97, 125, 32, 101, 120, 99, 101, 112, 116, 105, 111, 110, 32, 88, 32, 123, 125]) v8 v9 v10 v11 v12 v15 v18 v21 v22 v24 v27 v28 v30 v45 v73 v111) S) v
def u7_7 (C : CU) : CdU W22 := fun v S κ => W22.rec (motive := fun _ => RU) (fun v0 v1 v4 v5 v6 v7 v8 v9 v10 v11 v12 v15 v18 v21 v22 v24 v27 v28 v30 v45 v73 v111 => 
 uIad 1 v5 v6 S fun v112 S =>
 uLd none v112 S fun v113 S =>
 κ .normal (.mk v0 v1 v4 v5 v6 v7 v113 v9 v10 v11 v12 v15 v18 v21 v22 v24 v27 v28 v30 v45 v73 v111) S) v
def u7_8 (C : CU) : CdU W22 := fun v S κ => W22.rec (motive := fun _ => RU) (fun v0 v1 v4 v5 v6 v7 v8 v9 v10 v11 v12 v15 v18 v21 v22 v24 v27 v28 v30 v45 v73 v111 => 
 κ .normal (.mk v0 v1 v4 v5 v6 v7 v8 (.n 0) v10 v11 v12 v15 v18 v21 v22 v24 v27 v28 v30 v45 v73 v111) S) v
def u7_9 (C : CU) : CdU W22 := fun v S κ => W22.rec (motive := fun _ => RU) (fun v0 v1 v4 v5 v6 v7 v8 v9 v10 v11 v12 v15 v18 v21 v22 v24 v27 v28 v30 v45 v73 v111 => 
 uQuo false .rem v1 (.b 6) S fun v112 S =>
 uCvI .i64 v112 S fun v113 S =>
 uCmp ltN .lss v9 v113 S fun v114 S =>
 κ .normal (.mk v0 v1 v4 v5 v6 v7 v8 v9 v10 v11 v12 v15 v18 v21 v22 v24 v27 v28 v30 v114 v73 v111) S) v
def u7_10 : W22 → FV := fun v => W22.rec (motive := fun _ => FV) (fun v0 v1 v4 v5 v6 v7 v8 v9 v10 v11 v12 v15 v18 v21 v22 v24 v27 v28 v30 v45 v73 v111 => v45) v
def u7_11 (C : CU) : CdU W22 := fun v S κ => W22.rec (motive := fun _ => RU) (fun v0 v1 v4 v5 v6 v7 v8 v9 v10 v11 v12 v15 v18 v21 v22 v24 v27 v28 v30 v45 v73 v111 => 
 uAdd (.n 97) v9 S fun v112 S =>
 uCvI .u8 v112 S fun v113 S =>
 uLitF 5 1 [(.b 0)] 1 [(0, 1, v113)] S fun v114 S =>
 uCvBS v114 S fun v115 S =>
 uAdd (.s [84]) v115 S fun v116 S =>
 κ .normal (.mk v0 v1 v4 v5 v6 v7 v8 v9 v116 v11 v12 v15 v18 v21 v22 v24 v27 v28 v30 v45 v73 v111) S) v
def u7_12 (C : CU) : CdU W22 := fun v S κ => W22.rec (motive := fun _ => RU) (fun v0 v1 v4 v5 v6 v7 v8 v9 v10 v11 v12 v15 v18 v21 v22 v24 v27 v28 v30 v45 v73 v111 => 
 uAdd v7 (.s [32, 116, 121, 112, 101, 100, 101, 102, 32]) S fun v112 S =>
 uAdd v112 v8 S fun v113 S =>
 uAdd v113 (.s [32]) S fun v114 S =>
 uAdd v114 v10 S fun v115 S =>
 κ .normal (.mk v0 v1 v4 v5 v6 v115 v8 v9 v10 v11 v12 v15 v18 v21 v22 v24 v27 v28 v30 v45 v73 v111) S) v
def u7_13 (C : CU) : CdU W22 := fun v S κ => W22.rec (motive := fun _ => RU) (fun v0 v1 v4 v5 v6 v7 v8 v9 v10 v11 v12 v15 v18 v21 v22 v24 v27 v28 v30 v45 v73 v111 => 
 κ .normal (.mk v0 v1 v4 v5 v6 v7 v10 v9 v10 v11 v12 v15 v18 v21 v22 v24 v27 v28 v30 v45 v73 v111) S) v
def u7_14 (C : CU) : CdU W22 := fun v S κ => W22.rec (motive := fun _ => RU) (fun v0 v1 v4 v5 v6 v7 v8 v9 v10 v11 v12 v15 v18 v21 v22 v24 v27 v28 v30 v45 v73 v111 => 
 uAdd v9 (.n 1) S fun v112 S =>
 κ .normal (.mk v0 v1 v4 v5 v6 v7 v8 v112 v10 v11 v12 v15 v18 v21 v22 v24 v27 v28 v30 v45 v73 v111) S) v
def u7_15 (C : CU) (n : Nat) : CdU W22 := seqU (seqU (u7_9 C) (condU u7_10 (skipU) (exitU 0))) (seqU (blockU 1 (seqU (u7_11 C) (seqU (u7_12 C) (u7_13 C)))) (u7_14 C))
def u7_16 (C : CU) : CdU W22 := fun v S κ => W22.rec (motive := fun _ => RU) (fun v0 v1 v4 v5 v6 v7 v8 v9 v10 v11 v12 v15 v18 v21 v22 v24 v27 v28 v30 v45 v73 v111 => 
 uBuildF [(.s []), (.s [])] [(0, 1, (.s [97])), (1, 1, v7)] S fun v112 S =>
 uLitF 46 2 [(.s []), (.s [])] 1 [(0, 2, v112)] S fun v113 S =>
 uBuildF [(.s []), .nl] [(0, 1, (.s [97])), (1, 1, v113)] S fun v114 S =>
 uCall C 9 [v114] S fun v115 S =>
 uExt 0 v115 S fun v116 S =>
 uExt 1 v115 S fun v117 S =>
 uExt 2 v115 S fun v118 S =>
 uExt 3 v115 S fun v119 S =>
 uNewF 27 2 [.nl, .nl] S fun v120 S =>
 uSt 2 v120 v116 S fun v121 S =>
 κ .normal (.mk v0 v1 v4 v5 v6 v7 v8 v9 v10 v120 v117 v15 v18 v21 v22 v24 v27 v28 v30 v45 v73 v111) S) v
def u7_17 (C : CU) : CdU W22 := fun v S κ => W22.rec (motive := fun _ => RU) (fun v0 v1 v4 v5 v6 v7 v8 v9 v10 v11 v12 v15 v18 v21 v22 v24 v27 v28 v30 v45 v73 v111 => 
 uEq true .neq v12 (.n 0) S fun v112 S =>
 κ .normal (.mk v0 v1 v4 v5 v6 v7 v8 v9 v10 v11 v12 v15 v18 v21 v22 v24 v27 v28 v30 v45 v112 v111) S) v
def u7_18 : W22 → FV := fun v => W22.rec (motive := fun _ => FV) (fun v0 v1 v4 v5 v6 v7 v8 v9 v10 v11 v12 v15 v18 v21 v22 v24 v27 v28 v30 v45 v73 v111 => v73) v
def u7_19 (C : CU) : CdU W22 := fun v S κ => W22.rec (motive := fun _ => RU) (fun v0 v1 v4 v5 v6 v7 v8 v9 v10 v11 v12 v15 v18 v21 v22 v24 v27 v28 v30 v45 v73 v111 => 
 κ .normal (.mk v0 v1 (.t false) v5 v6 v7 v8 v9 v10 v11 v12 v15 v18 v21 v22 v24 v27 v28 v30 v45 v73 v111) S) v
def u7_20 (C : CU) : CdU W22 := fun v S κ => W22.rec (motive := fun _ => RU) (fun v0 v1 v4 v5 v6 v7 v8 v9 v10 v11 v12 v15 v18 v21 v22 v24 v27 v28 v30 v45 v73 v111 => 
 uLd (some 2) v11 S fun v112 S =>
 uCall C 12 [v112] S fun v113 S =>
 uNewF 37 2 [.nl, .nl] S fun v114 S =>
 uSt 2 v114 v113 S fun v115 S =>
 κ .normal (.mk v0 v1 v4 v5 v6 v7 v8 v9 v10 v11 v12 v114 v18 v21 v22 v24 v27 v28 v30 v45 v73 v111) S) v
def u7_21 (C : CU) : CdU W22 := fun v S κ => W22.rec (motive := fun _ => RU) (fun v0 v1 v4 v5 v6 v7 v8 v9 v10 v11 v12 v15 v18 v21 v22 v24 v27 v28 v30 v45 v73 v111 => 
 uLd (some 2) v15 S fun v112 S =>
 uAdd (.s [115, 101, 116, 60]) v8 S fun v113 S =>
 uAdd v113 (.s [62]) S fun v114 S =>
 uCall C 13 [v112, (.s [97]), v114] S fun v115 S =>
 uExt 0 v115 S fun v116 S =>
 uExt 1 v115 S fun v117 S =>
 uExt 2 v115 S fun v118 S =>
 κ .normal (.mk v0 v1 v4 v5 v6 v7 v8 v9 v10 v11 v12 v15 v118 v21 v22 v24 v27 v28 v30 v45 v73 v111) S) v
def u7_22 (C : CU) : CdU W22 := fun v S κ => W22.rec (motive := fun _ => RU) (fun v0 v1 v4 v5 v6 v7 v8 v9 v10 v11 v12 v15 v18 v21 v22 v24 v27 v28 v30 v45 v73 v111 => 
 uLd (some 2) v15 S fun v112 S =>
 uAdd (.s [109, 97, 112, 60]) v8 S fun v113 S =>
 uAdd v113 (.s [44, 105, 56, 62]) S fun v114 S =>
 uCall C 13 [v112, (.s [97]), v114] S fun v115 S =>
 uExt 0 v115 S fun v116 S =>
 uExt 1 v115 S fun v117 S =>
 uExt 2 v115 S fun v118 S =>
 κ .normal (.mk v0 v1 v4 v5 v6 v7 v8 v9 v10 v11 v12 v15 v18 v118 v22 v24 v27 v28 v30 v45 v73 v111) S) v
def u7_23 (C : CU) : CdU W22 := fun v S κ => W22.rec (motive := fun _ => RU) (fun v0 v1 v4 v5 v6 v7 v8 v9 v10 v11 v12 v15 v18 v21 v22 v24 v27 v28 v30 v45 v73 v111 => 
 uLd (some 2) v15 S fun v112 S =>
 uCall C 13 [v112, (.s [97]), v8] S fun v113 S =>
 uExt 0 v113 S fun v114 S =>
 uExt 1 v113 S fun v115 S =>
 uExt 2 v113 S fun v116 S =>
 κ .normal (.mk v0 v1 v4 v5 v6 v7 v8 v9 v10 v11 v12 v15 v18 v21 v114 v116 v27 v28 v30 v45 v73 v111) S) v
def u7_24 (C : CU) : CdU W22 := fun v S κ => W22.rec (motive := fun _ => RU) (fun v0 v1 v4 v5 v6 v7 v8 v9 v10 v11 v12 v15 v18 v21 v22 v24 v27 v28 v30 v45 v73 v111 => 
 uLd (some 2) v15 S fun v112 S =>
 uAdd (.s [109, 97, 112, 60, 105, 56, 44]) v8 S fun v113 S =>
 uAdd v113 (.s [62]) S fun v114 S =>
 uCall C 13 [v112, (.s [97]), v114] S fun v115 S =>
 uExt 0 v115 S fun v116 S =>
 uExt 1 v115 S fun v117 S =>
 uExt 2 v115 S fun v118 S =>
 κ .normal (.mk v0 v1 v4 v5 v6 v7 v8 v9 v10 v11 v12 v15 v18 v21 v22 v24 v118 v28 v30 v45 v73 v111) S) v
def u7_25 (C : CU) : CdU W22 := fun v S κ => W22.rec (motive := fun _ => RU) (fun v0 v1 v4 v5 v6 v7 v8 v9 v10 v11 v12 v15 v18 v21 v22 v24 v27 v28 v30 v45 v73 v111 => 
 κ .normal (.mk v0 v1 v4 v5 v6 v7 v8 v9 v10 v11 v12 v15 v18 v21 v22 v24 v27 (.n 0) v30 v45 v73 v111) S) v
def u7_26 (C : CU) : CdU W22 := fun v S κ => W22.rec (motive := fun _ => RU) (fun v0 v1 v4 v5 v6 v7 v8 v9 v10 v11 v12 v15 v18 v21 v22 v24 v27 v28 v30 v45 v73 v111 => 
 uCmp (fun a b => ltN b a) .gtr v6 (.n 8) S fun v112 S =>
 κ .normal (.mk v0 v1 v4 v5 v6 v7 v8 v9 v10 v11 v12 v15 v18 v21 v22 v24 v27 v28 v30 v45 v73 v112) S) v
def u7_27 : W22 → FV := fun v => W22.rec (motive := fun _ => FV) (fun v0 v1 v4 v5 v6 v7 v8 v9 v10 v11 v12 v15 v18 v21 v22 v24 v27 v28 v30 v45 v73 v111 => v111) v
def u7_28 (C : CU) : CdU W22 := fun v S κ => W22.rec (motive := fun _ => RU) (fun v0 v1 v4 v5 v6 v7 v8 v9 v10 v11 v12 v15 v18 v21 v22 v24 v27 v28 v30 v45 v73 v111 => 
 κ .normal (.mk v0 v1 v4 v5 v6 v7 v8 v9 v10 v11 v12 v15 v18 v21 v22 v24 v27 (.n 11) v30 v45 v73 v111) S) v
def u7_29 (C : CU) : CdU W22 := fun v S κ => W22.rec (motive := fun _ => RU) (fun v0 v1 v4 v5 v6 v7 v8 v9 v10 v11 v12 v15 v18 v21 v22 v24 v27 v28 v30 v45 v73 v111 => 
 uEq false .eql v18 v28 S fun v112 S =>
 eT v112 fun b => cn b
 (uEq false .eql v21 v28 S fun v113 S =>
 eT v113 fun b => cn b
 (uEq false .eql v24 (.n 0) S fun v114 S =>
 eT v114 fun b => cn b
 (uEq false .eql v27 (.n 0) S fun v115 S =>
 eT v115 fun b => cn b
 (uLd (some 2) v15 S fun v116 S =>
 uCall C 15 [v116, v22] S fun v117 S =>
 uCmp Nat.ble .leq v6 (.n 8) S fun v118 S =>
 uEqB false v117 v118 S fun v119 S =>
 κ .normal (.mk v0 v1 v119 v5 v6 v7 v8 v9 v10 v11 v12 v15 v18 v21 v22 v24 v27 v28 v30 v45 v73 v111) S)
 (κ .normal (.mk v0 v1 (.t false) v5 v6 v7 v8 v9 v10 v11 v12 v15 v18 v21 v22 v24 v27 v28 v30 v45 v73 v111) S))
 (κ .normal (.mk v0 v1 (.t false) v5 v6 v7 v8 v9 v10 v11 v12 v15 v18 v21 v22 v24 v27 v28 v30 v45 v73 v111) S))
 (κ .normal (.mk v0 v1 (.t false) v5 v6 v7 v8 v9 v10 v11 v12 v15 v18 v21 v22 v24 v27 v28 v30 v45 v73 v111) S))
 (κ .normal (.mk v0 v1 (.t false) v5 v6 v7 v8 v9 v10 v11 v12 v15 v18 v21 v22 v24 v27 v28 v30 v45 v73 v111) S)) v
def u7r (v : W22) (S : FAW) : RU := W22.rec (motive := fun _ => RU) (fun v0 v1 v4 v5 v6 v7 v8 v9 v10 v11 v12 v15 v18 v21 v22 v24 v27 v28 v30 v45 v73 v111 => .ok v4 S) v
def u7 : Fu := fun C n args S => (seqU (u7_0 C) (seqU (seqU (u7_1 C) (condU u7_2 (seqU (u7_3 C) (retU)) (skipU))) (seqU (u7_4 C) (seqU (u7_5 C) (seqU (u7_6 C) (seqU (u7_7 C) (seqU (seqU (u7_8 C) (blockU 0 (loopU n (u7_15 C n)))) (seqU (u7_16 C) (seqU (seqU (u7_17 C) (condU u7_18 (seqU (u7_19 C) (retU)) (skipU))) (seqU (u7_20 C) (seqU (u7_21 C) (seqU (u7_22 C) (seqU (u7_23 C) (seqU (u7_24 C) (seqU (u7_25 C) (seqU (seqU (u7_26 C) (condU u7_27 (u7_28 C) (skipU))) (seqU (u7_29 C) (retU))))))))))))))))) : CdU W22) (.mk (argU args 0) (argU args 1) (argU args 4) (argU args 5) (argU args 6) (argU args 7) (argU args 8) (argU args 9) (argU args 10) (argU args 11) (argU args 12) (argU args 15) (argU args 18) (argU args 21) (argU args 22) (argU args 24) (argU args 27) (argU args 28) (argU args 30) (argU args 45) (argU args 73) (argU args 111)) S fun o v S => exU o (u7r v S) (fun _ => .no) (u7r v S)
/-! assayer/assayerlaw11.begun -/
def u8_0 (C : CU) : CdU W7 := fun v S κ => W7.rec (motive := fun _ => RU) (fun v0 v1 v5 v6 v7 v8 v11 => 
 κ .normal (.mk (.t false) v1 v5 v6 v7 v8 v11) S) v
def u8_1 (C : CU) : CdU W7 := fun v S κ => W7.rec (motive := fun _ => RU) (fun v0 v1 v5 v6 v7 v8 v11 => 
 uBuildF [(.s []), (.s [])] [(0, 1, (.s [97])), (1, 1, (.s [116, 121, 112, 101, 100, 101, 102, 32, 108, 105, 115, 116, 60, 66, 62, 32, 76, 32, 115, 116, 114, 117, 99, 116, 32, 66, 32, 123, 125]))] S fun v12 S =>
 uLitF 46 2 [(.s []), (.s [])] 1 [(0, 2, v12)] S fun v13 S =>
 uBuildF [(.s []), .nl] [(0, 1, (.s [97])), (1, 1, v13)] S fun v14 S =>
 uCall C 9 [v14] S fun v15 S =>
 uExt 0 v15 S fun v16 S =>
 uExt 1 v15 S fun v17 S =>
 uExt 2 v15 S fun v18 S =>
 uExt 3 v15 S fun v19 S =>
 uNewF 27 2 [.nl, .nl] S fun v20 S =>
 uSt 2 v20 v16 S fun v21 S =>
 κ .normal (.mk v0 v20 v5 v6 v7 v8 v11) S) v
def u8_2 (C : CU) : CdU W7 := fun v S κ => W7.rec (motive := fun _ => RU) (fun v0 v1 v5 v6 v7 v8 v11 => 
 uLd (some 2) v1 S fun v12 S =>
 uCall C 12 [v12] S fun v13 S =>
 uNewF 37 2 [.nl, .nl] S fun v14 S =>
 uSt 2 v14 v13 S fun v15 S =>
 κ .normal (.mk v0 v1 v14 v6 v7 v8 v11) S) v
def u8_3 (C : CU) : CdU W7 := fun v S κ => W7.rec (motive := fun _ => RU) (fun v0 v1 v5 v6 v7 v8 v11 => 
 uLd (some 2) v5 S fun v12 S =>
 uCall C 13 [v12, (.s [97]), (.s [76])] S fun v13 S =>
 uExt 0 v13 S fun v14 S =>
 uExt 1 v13 S fun v15 S =>
 uExt 2 v13 S fun v16 S =>
 κ .normal (.mk v0 v1 v5 v14 v15 v16 v11) S) v
def u8_4 (C : CU) : CdU W7 := fun v S κ => W7.rec (motive := fun _ => RU) (fun v0 v1 v5 v6 v7 v8 v11 => 
 uLd (some 2) v5 S fun v12 S =>
 uCall C 13 [v12, (.s [97]), (.s [115, 101, 116, 60, 66, 62])] S fun v13 S =>
 uExt 0 v13 S fun v14 S =>
 uExt 1 v13 S fun v15 S =>
 uExt 2 v13 S fun v16 S =>
 κ .normal (.mk v0 v1 v5 v6 v7 v8 v16) S) v
def u8_5 (C : CU) : CdU W7 := fun v S κ => W7.rec (motive := fun _ => RU) (fun v0 v1 v5 v6 v7 v8 v11 => 
 uEq false .eql v6 (.s [108, 105, 115, 116, 60, 97, 46, 66, 62]) S fun v12 S =>
 eT v12 fun b => cn b
 (uEq false .eql v7 (.n 15) S fun v13 S =>
 eT v13 fun b => cn b
 (uEq false .eql v8 (.n 0) S fun v14 S =>
 eT v14 fun b => cn b
 (uEq false .eql v11 (.n 11) S fun v15 S =>
 eT v15 fun b => cn b
 (uLd (some 2) v5 S fun v16 S =>
 uCall C 15 [v16, (.s [105, 56])] S fun v17 S =>
 eT v17 fun b => cn b
 (uLd (some 2) v5 S fun v18 S =>
 uCall C 15 [v18, (.s [97, 46, 66])] S fun v19 S =>
 uNot v19 S fun v20 S =>
 κ .normal (.mk v20 v1 v5 v6 v7 v8 v11) S)
 (κ .normal (.mk (.t false) v1 v5 v6 v7 v8 v11) S))
 (κ .normal (.mk (.t false) v1 v5 v6 v7 v8 v11) S))
 (κ .normal (.mk (.t false) v1 v5 v6 v7 v8 v11) S))
 (κ .normal (.mk (.t false) v1 v5 v6 v7 v8 v11) S))
 (κ .normal (.mk (.t false) v1 v5 v6 v7 v8 v11) S)) v
def u8r (v : W7) (S : FAW) : RU := W7.rec (motive := fun _ => RU) (fun v0 v1 v5 v6 v7 v8 v11 => .ok v0 S) v
def u8 : Fu := fun C n args S => (seqU (u8_0 C) (seqU (u8_1 C) (seqU (u8_2 C) (seqU (u8_3 C) (seqU (u8_4 C) (seqU (u8_5 C) (retU)))))) : CdU W7) (.mk (argU args 0) (argU args 1) (argU args 5) (argU args 6) (argU args 7) (argU args 8) (argU args 11)) S fun o v S => exU o (u8r v S) (fun _ => .no) (u8r v S)
/-! assayer/assayerref9.Load -/
def u9_0 (C : CU) : CdU W19 := fun v S κ => W19.rec (motive := fun _ => RU) (fun v0 v1 v2 v3 v4 v5 v6 v7 v8 v9 v11 v15 v21 v26 v41 v53 v63 v82 v94 => 
 uBox 33 2 v0 S fun v95 S =>
 uNewF 27 2 [.nl, .nl] S fun v96 S =>
 κ .normal (.mk v0 v95 v96 (.n 0) (.s []) (.n 0) v6 v7 v8 v9 v11 v15 v21 v26 v41 v53 v63 v82 v94) S) v
def u9_1 (C : CU) : CdU W19 := fun v S κ => W19.rec (motive := fun _ => RU) (fun v0 v1 v2 v3 v4 v5 v6 v7 v8 v9 v11 v15 v21 v26 v41 v53 v63 v82 v94 => 
 uFad 1 v1 S fun v95 S =>
 uLd none v95 S fun v96 S =>
 uLen false v96 S fun v97 S =>
 uCmp (fun a b => ltN b a) .gtr v97 (.n 5) S fun v98 S =>
 κ .normal (.mk v0 v1 v2 v3 v4 v5 v6 v7 v8 v9 v11 v98 v21 v26 v41 v53 v63 v82 v94) S) v
def u9_2 : W19 → FV := fun v => W19.rec (motive := fun _ => FV) (fun v0 v1 v2 v3 v4 v5 v6 v7 v8 v9 v11 v15 v21 v26 v41 v53 v63 v82 v94 => v15) v
def u9_3 (C : CU) : CdU W19 := fun v S κ => W19.rec (motive := fun _ => RU) (fun v0 v1 v2 v3 v4 v5 v6 v7 v8 v9 v11 v15 v21 v26 v41 v53 v63 v82 v94 => 
 uBuildF [.nl, .nl] [] S fun v95 S =>
 uSt 2 v2 v95 S fun v96 S =>
 κ .normal (.mk v0 v1 v2 (.n 4) (.s []) (.n 0) v6 v7 v8 v9 v11 v15 v21 v26 v41 v53 v63 v82 v94) S) v
def u9_4 (C : CU) : CdU W19 := fun v S κ => W19.rec (motive := fun _ => RU) (fun v0 v1 v2 v3 v4 v5 v6 v7 v8 v9 v11 v15 v21 v26 v41 v53 v63 v82 v94 => 
 κ .normal (.mk v0 v1 v2 v3 v4 v5 (.n 0) v7 v8 v9 v11 v15 v21 v26 v41 v53 v63 v82 v94) S) v
def u9_5 (C : CU) : CdU W19 := fun v S κ => W19.rec (motive := fun _ => RU) (fun v0 v1 v2 v3 v4 v5 v6 v7 v8 v9 v11 v15 v21 v26 v41 v53 v63 v82 v94 => 
 uFad 1 v1 S fun v95 S =>
 uLd none v95 S fun v96 S =>
 uLen false v96 S fun v97 S =>
 uCmp ltN .lss v6 v97 S fun v98 S =>
 κ .normal (.mk v0 v1 v2 v3 v4 v5 v6 v7 v8 v9 v11 v15 v98 v26 v41 v53 v63 v82 v94) S) v
def u9_6 : W19 → FV := fun v => W19.rec (motive := fun _ => FV) (fun v0 v1 v2 v3 v4 v5 v6 v7 v8 v9 v11 v15 v21 v26 v41 v53 v63 v82 v94 => v21) v
def u9_7 (C : CU) : CdU W19 := fun v S κ => W19.rec (motive := fun _ => RU) (fun v0 v1 v2 v3 v4 v5 v6 v7 v8 v9 v11 v15 v21 v26 v41 v53 v63 v82 v94 => 
 κ .normal (.mk v0 v1 v2 v3 v4 v5 v6 (.n 0) v8 v9 v11 v15 v21 v26 v41 v53 v63 v82 v94) S) v
def u9_8 (C : CU) : CdU W19 := fun v S κ => W19.rec (motive := fun _ => RU) (fun v0 v1 v2 v3 v4 v5 v6 v7 v8 v9 v11 v15 v21 v26 v41 v53 v63 v82 v94 => 
 uCmp ltN .lss v7 v6 S fun v95 S =>
 κ .normal (.mk v0 v1 v2 v3 v4 v5 v6 v7 v8 v9 v11 v15 v21 v95 v41 v53 v63 v82 v94) S) v
def u9_9 : W19 → FV := fun v => W19.rec (motive := fun _ => FV) (fun v0 v1 v2 v3 v4 v5 v6 v7 v8 v9 v11 v15 v21 v26 v41 v53 v63 v82 v94 => v26) v
def u9_10 (C : CU) : CdU W19 := fun v S κ => W19.rec (motive := fun _ => RU) (fun v0 v1 v2 v3 v4 v5 v6 v7 v8 v9 v11 v15 v21 v26 v41 v53 v63 v82 v94 => 
 uFad 1 v1 S fun v95 S =>
 uLd none v95 S fun v96 S =>
 uIad 2 v96 v7 S fun v97 S =>
 uFad 0 v97 S fun v98 S =>
 uLd none v98 S fun v99 S =>
 uFad 1 v1 S fun v100 S =>
 uLd none v100 S fun v101 S =>
 uIad 2 v101 v6 S fun v102 S =>
 uFad 0 v102 S fun v103 S =>
 uLd none v103 S fun v104 S =>
 uEq false .eql v99 v104 S fun v105 S =>
 κ .normal (.mk v0 v1 v2 v3 v4 v5 v6 v7 v8 v9 v11 v15 v21 v26 v105 v53 v63 v82 v94) S) v
def u9_11 : W19 → FV := fun v => W19.rec (motive := fun _ => FV) (fun v0 v1 v2 v3 v4 v5 v6 v7 v8 v9 v11 v15 v21 v26 v41 v53 v63 v82 v94 => v41) v
def u9_12 (C : CU) : CdU W19 := fun v S κ => W19.rec (motive := fun _ => RU) (fun v0 v1 v2 v3 v4 v5 v6 v7 v8 v9 v11 v15 v21 v26 v41 v53 v63 v82 v94 => 
 uBuildF [.nl, .nl] [] S fun v95 S =>
 uFad 1 v1 S fun v96 S =>
 uLd none v96 S fun v97 S =>
 uIad 2 v97 v6 S fun v98 S =>
 uFad 0 v98 S fun v99 S =>
 uLd none v99 S fun v100 S =>
 uSt 2 v2 v95 S fun v101 S =>
 uLd none v99 S fun u _ => veqU u v100
 (uLd none v96 S fun u _ => veqU u v97
 (κ .normal (.mk v0 v1 v2 (.n 8) v100 (.n 0) v6 v7 v8 v9 v11 v15 v21 v26 v41 v53 v63 v82 v94) S))) v
def u9_13 (C : CU) : CdU W19 := fun v S κ => W19.rec (motive := fun _ => RU) (fun v0 v1 v2 v3 v4 v5 v6 v7 v8 v9 v11 v15 v21 v26 v41 v53 v63 v82 v94 => 
 uAdd v7 (.n 1) S fun v95 S =>
 κ .normal (.mk v0 v1 v2 v3 v4 v5 v6 v95 v8 v9 v11 v15 v21 v26 v41 v53 v63 v82 v94) S) v
def u9_14 (C : CU) (n : Nat) : CdU W19 := seqU (seqU (u9_8 C) (condU u9_9 (skipU) (exitU 2))) (seqU (blockU 3 (seqU (u9_10 C) (condU u9_11 (seqU (u9_12 C) (retU)) (skipU)))) (u9_13 C))
def u9_15 (C : CU) : CdU W19 := fun v S κ => W19.rec (motive := fun _ => RU) (fun v0 v1 v2 v3 v4 v5 v6 v7 v8 v9 v11 v15 v21 v26 v41 v53 v63 v82 v94 => 
 uAdd v6 (.n 1) S fun v95 S =>
 κ .normal (.mk v0 v1 v2 v3 v4 v5 v95 v7 v8 v9 v11 v15 v21 v26 v41 v53 v63 v82 v94) S) v
def u9_16 (C : CU) (n : Nat) : CdU W19 := seqU (seqU (u9_5 C) (condU u9_6 (skipU) (exitU 0))) (seqU (blockU 1 (seqU (u9_7 C) (blockU 2 (loopU n (u9_14 C n))))) (u9_15 C))
def u9_17 (C : CU) : CdU W19 := fun v S κ => W19.rec (motive := fun _ => RU) (fun v0 v1 v2 v3 v4 v5 v6 v7 v8 v9 v11 v15 v21 v26 v41 v53 v63 v82 v94 => 
 κ .normal (.mk v0 v1 v2 v3 v4 v5 v6 v7 (.n 0) v9 v11 v15 v21 v26 v41 v53 v63 v82 v94) S) v
def u9_18 (C : CU) : CdU W19 := fun v S κ => W19.rec (motive := fun _ => RU) (fun v0 v1 v2 v3 v4 v5 v6 v7 v8 v9 v11 v15 v21 v26 v41 v53 v63 v82 v94 => 
 uFad 1 v1 S fun v95 S =>
 uLd none v95 S fun v96 S =>
 uLen false v96 S fun v97 S =>
 uCmp ltN .lss v8 v97 S fun v98 S =>
 κ .normal (.mk v0 v1 v2 v3 v4 v5 v6 v7 v8 v9 v11 v15 v21 v26 v41 v98 v63 v82 v94) S) v
def u9_19 : W19 → FV := fun v => W19.rec (motive := fun _ => FV) (fun v0 v1 v2 v3 v4 v5 v6 v7 v8 v9 v11 v15 v21 v26 v41 v53 v63 v82 v94 => v53) v
def u9_20 (C : CU) : CdU W19 := fun v S κ => W19.rec (motive := fun _ => RU) (fun v0 v1 v2 v3 v4 v5 v6 v7 v8 v9 v11 v15 v21 v26 v41 v53 v63 v82 v94 => 
 uFad 1 v1 S fun v95 S =>
 uLd none v95 S fun v96 S =>
 uIad 2 v96 v8 S fun v97 S =>
 uFad 0 v97 S fun v98 S =>
 uLd none v98 S fun v99 S =>
 uCall C 18 [v99] S fun v100 S =>
 uNot v100 S fun v101 S =>
 κ .normal (.mk v0 v1 v2 v3 v4 v5 v6 v7 v8 v9 v11 v15 v21 v26 v41 v53 v101 v82 v94) S) v
def u9_21 : W19 → FV := fun v => W19.rec (motive := fun _ => FV) (fun v0 v1 v2 v3 v4 v5 v6 v7 v8 v9 v11 v15 v21 v26 v41 v53 v63 v82 v94 => v63) v
def u9_22 (C : CU) : CdU W19 := fun v S κ => W19.rec (motive := fun _ => RU) (fun v0 v1 v2 v3 v4 v5 v6 v7 v8 v9 v11 v15 v21 v26 v41 v53 v63 v82 v94 => 
 uBuildF [.nl, .nl] [] S fun v95 S =>
 uFad 1 v1 S fun v96 S =>
 uLd none v96 S fun v97 S =>
 uIad 2 v97 v8 S fun v98 S =>
 uFad 0 v98 S fun v99 S =>
 uLd none v99 S fun v100 S =>
 uSt 2 v2 v95 S fun v101 S =>
 uLd none v99 S fun u _ => veqU u v100
 (uLd none v96 S fun u _ => veqU u v97
 (κ .normal (.mk v0 v1 v2 (.n 2) v100 (.n 0) v6 v7 v8 v9 v11 v15 v21 v26 v41 v53 v63 v82 v94) S))) v
def u9_23 (C : CU) : CdU W19 := fun v S κ => W19.rec (motive := fun _ => RU) (fun v0 v1 v2 v3 v4 v5 v6 v7 v8 v9 v11 v15 v21 v26 v41 v53 v63 v82 v94 => 
 uAdd v8 (.n 1) S fun v95 S =>
 κ .normal (.mk v0 v1 v2 v3 v4 v5 v6 v7 v95 v9 v11 v15 v21 v26 v41 v53 v63 v82 v94) S) v
def u9_24 (C : CU) (n : Nat) : CdU W19 := seqU (seqU (u9_18 C) (condU u9_19 (skipU) (exitU 4))) (seqU (blockU 5 (seqU (u9_20 C) (condU u9_21 (seqU (u9_22 C) (retU)) (skipU)))) (u9_23 C))
def u9_25 (C : CU) : CdU W19 := fun v S κ => W19.rec (motive := fun _ => RU) (fun v0 v1 v2 v3 v4 v5 v6 v7 v8 v9 v11 v15 v21 v26 v41 v53 v63 v82 v94 => 
 uLd (some 2) v1 S fun v95 S =>
 uBuildF [(.s []), .nl, .nl, .nl, .nl, (.n 0), (.s []), (.n 0)] [(0, 2, v95)] S fun v96 S =>
 uBox 69 8 v96 S fun v97 S =>
 κ .normal (.mk v0 v1 v2 v3 v4 v5 v6 v7 v8 v97 v11 v15 v21 v26 v41 v53 v63 v82 v94) S) v
def u9_26 (C : CU) : CdU W19 := fun v S κ => W19.rec (motive := fun _ => RU) (fun v0 v1 v2 v3 v4 v5 v6 v7 v8 v9 v11 v15 v21 v26 v41 v53 v63 v82 v94 => 
 uFad 0 v1 S fun v95 S =>
 uLd none v95 S fun v96 S =>
 uCall C 19 [v9, v96] S fun v97 S =>
 uExt 0 v97 S fun v98 S =>
 uExt 1 v97 S fun v99 S =>
 κ .normal (.mk v0 v1 v2 v3 v4 v5 v6 v7 v8 v9 v99 v15 v21 v26 v41 v53 v63 v82 v94) S) v
def u9_27 (C : CU) : CdU W19 := fun v S κ => W19.rec (motive := fun _ => RU) (fun v0 v1 v2 v3 v4 v5 v6 v7 v8 v9 v11 v15 v21 v26 v41 v53 v63 v82 v94 => 
 uNot v11 S fun v95 S =>
 κ .normal (.mk v0 v1 v2 v3 v4 v5 v6 v7 v8 v9 v11 v15 v21 v26 v41 v53 v63 v95 v94) S) v
def u9_28 : W19 → FV := fun v => W19.rec (motive := fun _ => FV) (fun v0 v1 v2 v3 v4 v5 v6 v7 v8 v9 v11 v15 v21 v26 v41 v53 v63 v82 v94 => v82) v
def u9_29 (C : CU) : CdU W19 := fun v S κ => W19.rec (motive := fun _ => RU) (fun v0 v1 v2 v3 v4 v5 v6 v7 v8 v9 v11 v15 v21 v26 v41 v53 v63 v82 v94 => 
 uBuildF [.nl, .nl] [] S fun v95 S =>
 uFad 0 v1 S fun v96 S =>
 uLd none v96 S fun v97 S =>
 uSt 2 v2 v95 S fun v98 S =>
 uLd none v96 S fun u _ => veqU u v97
 (κ .normal (.mk v0 v1 v2 (.n 15) v97 (.n 0) v6 v7 v8 v9 v11 v15 v21 v26 v41 v53 v63 v82 v94) S)) v
def u9_30 (C : CU) : CdU W19 := fun v S κ => W19.rec (motive := fun _ => RU) (fun v0 v1 v2 v3 v4 v5 v6 v7 v8 v9 v11 v15 v21 v26 v41 v53 v63 v82 v94 => 
 uFad 0 v1 S fun v95 S =>
 uLd none v95 S fun v96 S =>
 uCall C 20 [v9, v96] S fun v97 S =>
 κ .normal (.mk v0 v1 v2 v3 v4 v5 v6 v7 v8 v9 v11 v15 v21 v26 v41 v53 v63 v82 v94) S) v
def u9_31 (C : CU) : CdU W19 := fun v S κ => W19.rec (motive := fun _ => RU) (fun v0 v1 v2 v3 v4 v5 v6 v7 v8 v9 v11 v15 v21 v26 v41 v53 v63 v82 v94 => 
 uGet 5 v9 S fun v97 S =>
 uEq true .neq v97 (.n 0) S fun v98 S =>
 κ .normal (.mk v0 v1 v2 v3 v4 v5 v6 v7 v8 v9 v11 v15 v21 v26 v41 v53 v63 v82 v98) S) v
def u9_32 : W19 → FV := fun v => W19.rec (motive := fun _ => FV) (fun v0 v1 v2 v3 v4 v5 v6 v7 v8 v9 v11 v15 v21 v26 v41 v53 v63 v82 v94 => v94) v
def u9_33 (C : CU) : CdU W19 := fun v S κ => W19.rec (motive := fun _ => RU) (fun v0 v1 v2 v3 v4 v5 v6 v7 v8 v9 v11 v15 v21 v26 v41 v53 v63 v82 v94 => 
 uBuildF [.nl, .nl] [] S fun v95 S =>
 uNilc v9 S fun v96 S =>
 uFad 5 v96 S fun v97 S =>
 uLd none v97 S fun v98 S =>
 uNilc v9 S fun v99 S =>
 uFad 6 v99 S fun v100 S =>
 uLd none v100 S fun v101 S =>
 uNilc v9 S fun v102 S =>
 uFad 7 v102 S fun v103 S =>
 uLd none v103 S fun v104 S =>
 uSt 2 v2 v95 S fun v105 S =>
 uLd none v103 S fun u _ => veqU u v104
 (uLd none v100 S fun u _ => veqU u v101
 (uLd none v97 S fun u _ => veqU u v98
 (κ .normal (.mk v0 v1 v2 v98 v101 v104 v6 v7 v8 v9 v11 v15 v21 v26 v41 v53 v63 v82 v94) S)))) v
def u9_34 (C : CU) : CdU W19 := fun v S κ => W19.rec (motive := fun _ => RU) (fun v0 v1 v2 v3 v4 v5 v6 v7 v8 v9 v11 v15 v21 v26 v41 v53 v63 v82 v94 => 
 uNilc v9 S fun v95 S =>
 uFad 2 v95 S fun v96 S =>
 uLd (some 2) v96 S fun v97 S =>
 uSt 2 v2 v97 S fun v98 S =>
 κ .normal (.mk v0 v1 v2 (.n 0) (.s []) (.n 0) v6 v7 v8 v9 v11 v15 v21 v26 v41 v53 v63 v82 v94) S) v
def u9r (v : W19) (S : FAW) : RU := W19.rec (motive := fun _ => RU) (fun v0 v1 v2 v3 v4 v5 v6 v7 v8 v9 v11 v15 v21 v26 v41 v53 v63 v82 v94 => uLd (some 2) v2 S fun r2 _ => .ok (.u [r2, v3, v4, v5]) S) v
def u9 : Fu := fun C n args S => (seqU (u9_0 C) (seqU (seqU (u9_1 C) (condU u9_2 (seqU (u9_3 C) (retU)) (skipU))) (seqU (seqU (u9_4 C) (blockU 0 (loopU n (u9_16 C n)))) (seqU (seqU (u9_17 C) (blockU 4 (loopU n (u9_24 C n)))) (seqU (u9_25 C) (seqU (u9_26 C) (seqU (seqU (u9_27 C) (condU u9_28 (seqU (u9_29 C) (retU)) (skipU))) (seqU (u9_30 C) (seqU (seqU (u9_31 C) (condU u9_32 (seqU (u9_33 C) (retU)) (skipU))) (seqU (u9_34 C) (retU)))))))))) : CdU W19) (.mk (argU args 0) (argU args 1) (argU args 2) (argU args 3) (argU args 4) (argU args 5) (argU args 6) (argU args 7) (argU args 8) (argU args 9) (argU args 11) (argU args 15) (argU args 21) (argU args 26) (argU args 41) (argU args 53) (argU args 63) (argU args 82) (argU args 94)) S fun o v S => exU o (u9r v S) (fun _ => .no) (u9r v S)
/-! assayer/assayerlaw9.From -/
def u12_0 (C : CU) : CdU W3 := fun v S κ => W3.rec (motive := fun _ => RU) (fun v0 v1 v2 => 
 uBox 27 2 v0 S fun v3 S =>
 uNewF 37 2 [.nl, .nl] S fun v4 S =>
 κ .normal (.mk v0 v3 v4) S) v
def u12_1 (C : CU) : CdU W3 := fun v S κ => W3.rec (motive := fun _ => RU) (fun v0 v1 v2 => 
 uFad 0 v1 S fun v3 S =>
 uLd none v3 S fun v4 S =>
 uFad 1 v1 S fun v5 S =>
 uLd none v5 S fun v6 S =>
 uBuildF [.nl, .nl] [(0, 1, v4), (1, 1, v6)] S fun v7 S =>
 uSt 2 v2 v7 S fun v8 S =>
 κ .normal (.mk v0 v1 v2) S) v
def u12r (v : W3) (S : FAW) : RU := W3.rec (motive := fun _ => RU) (fun v0 v1 v2 => uLd (some 2) v2 S fun r2 _ => .ok r2 S) v
def u12 : Fu := fun C n args S => (seqU (u12_0 C) (seqU (u12_1 C) (retU)) : CdU W3) (.mk (argU args 0) (argU args 1) (argU args 2)) S fun o v S => exU o (u12r v S) (fun _ => .no) (u12r v S)
/-! assayer/alias.Type -/
def u13_0 (C : CU) : CdU W10 := fun v S κ => W10.rec (motive := fun _ => RU) (fun v0 v1 v2 v3 v6 v7 v8 v9 v12 v32 => 
 uBox 37 2 v0 S fun v33 S =>
 κ .normal (.mk v0 v1 v2 v33 (.s []) (.n 0) (.n 0) v9 v12 v32) S) v
def u13_1 (C : CU) : CdU W10 := fun v S κ => W10.rec (motive := fun _ => RU) (fun v0 v1 v2 v3 v6 v7 v8 v9 v12 v32 => 
 uCall C 23 [v2] S fun v33 S =>
 uNot v33 S fun v34 S =>
 κ .normal (.mk v0 v1 v2 v3 v6 v7 v8 v9 v34 v32) S) v
def u13_2 : W10 → FV := fun v => W10.rec (motive := fun _ => FV) (fun v0 v1 v2 v3 v6 v7 v8 v9 v12 v32 => v12) v
def u13_3 (C : CU) : CdU W10 := fun v S κ => W10.rec (motive := fun _ => RU) (fun v0 v1 v2 v3 v6 v7 v8 v9 v12 v32 => 
 κ .normal (.mk v0 v1 v2 v3 (.s []) (.n 0) (.n 2) v9 v12 v32) S) v
def u13_4 (C : CU) : CdU W10 := fun v S κ => W10.rec (motive := fun _ => RU) (fun v0 v1 v2 v3 v6 v7 v8 v9 v12 v32 => 
 uLd (some 2) v3 S fun v33 S =>
 uMkm none S fun v34 S =>
 uBuildF [.nl, .nl, .nm, (.n 0)] [(0, 2, v33), (2, 1, v34)] S fun v35 S =>
 uBox 80 4 v35 S fun v36 S =>
 κ .normal (.mk v0 v1 v2 v3 v6 v7 v8 v36 v12 v32) S) v
def u13_5 (C : CU) : CdU W10 := fun v S κ => W10.rec (motive := fun _ => RU) (fun v0 v1 v2 v3 v6 v7 v8 v9 v12 v32 => 
 uCall C 24 [v9, v1, v2] S fun v33 S =>
 uExt 0 v33 S fun v34 S =>
 uExt 1 v33 S fun v35 S =>
 κ .normal (.mk v0 v1 v2 v3 v34 v35 v8 v9 v12 v32) S) v
def u13_6 (C : CU) : CdU W10 := fun v S κ => W10.rec (motive := fun _ => RU) (fun v0 v1 v2 v3 v6 v7 v8 v9 v12 v32 => 
 uCall C 26 [v6] S fun v33 S =>
 uCall C 25 [v9, v33, (.n 6)] S fun v34 S =>
 κ .normal (.mk v0 v1 v2 v3 v6 v7 v8 v9 v12 v32) S) v
def u13_7 (C : CU) : CdU W10 := fun v S κ => W10.rec (motive := fun _ => RU) (fun v0 v1 v2 v3 v6 v7 v8 v9 v12 v32 => 
 uGet 3 v9 S fun v35 S =>
 uEq true .neq v35 (.n 0) S fun v36 S =>
 κ .normal (.mk v0 v1 v2 v3 v6 v7 v8 v9 v12 v36) S) v
def u13_8 : W10 → FV := fun v => W10.rec (motive := fun _ => FV) (fun v0 v1 v2 v3 v6 v7 v8 v9 v12 v32 => v32) v
def u13_9 (C : CU) : CdU W10 := fun v S κ => W10.rec (motive := fun _ => RU) (fun v0 v1 v2 v3 v6 v7 v8 v9 v12 v32 => 
 uGet 3 v9 S fun v35 S =>
 κ .normal (.mk v0 v1 v2 v3 (.s []) (.n 0) v35 v9 v12 v32) S) v
def u13_10 (C : CU) : CdU W10 := fun v S κ => W10.rec (motive := fun _ => RU) (fun v0 v1 v2 v3 v6 v7 v8 v9 v12 v32 => 
 κ .normal (.mk v0 v1 v2 v3 v6 v7 (.n 0) v9 v12 v32) S) v
def u13r (v : W10) (S : FAW) : RU := W10.rec (motive := fun _ => RU) (fun v0 v1 v2 v3 v6 v7 v8 v9 v12 v32 => .ok (.u [v6, v7, v8]) S) v
def u13 : Fu := fun C n args S => (seqU (u13_0 C) (seqU (seqU (u13_1 C) (condU u13_2 (seqU (u13_3 C) (retU)) (skipU))) (seqU (u13_4 C) (seqU (u13_5 C) (seqU (u13_6 C) (seqU (seqU (u13_7 C) (condU u13_8 (seqU (u13_9 C) (retU)) (skipU))) (seqU (u13_10 C) (retU))))))) : CdU W10) (.mk (argU args 0) (argU args 1) (argU args 2) (argU args 3) (argU args 6) (argU args 7) (argU args 8) (argU args 9) (argU args 12) (argU args 32)) S fun o v S => exU o (u13r v S) (fun _ => .no) (u13r v S)
/-! assayer/alias.Key -/
def u15_0 (C : CU) : CdU W13 := fun v S κ => W13.rec (motive := fun _ => RU) (fun v0 v1 v2 v4 v5 v6 v9 v10 v11 v13 v15 v25 v27 => 
 uBox 37 2 v0 S fun v28 S =>
 κ .normal (.mk v0 v1 v28 (.t false) v5 v6 v9 v10 v11 v13 v15 v25 v27) S) v
def u15_1 (C : CU) : CdU W13 := fun v S κ => W13.rec (motive := fun _ => RU) (fun v0 v1 v2 v4 v5 v6 v9 v10 v11 v13 v15 v25 v27 => 
 uCall C 29 [v1] S fun v28 S =>
 uExt 0 v28 S fun v29 S =>
 uExt 1 v28 S fun v30 S =>
 uExt 2 v28 S fun v31 S =>
 uExt 3 v28 S fun v32 S =>
 uExt 4 v28 S fun v33 S =>
 κ .normal (.mk v0 v1 v2 v4 v29 v30 v33 v10 v11 v13 v15 v25 v27) S) v
def u15_2 (C : CU) : CdU W13 := fun v S κ => W13.rec (motive := fun _ => RU) (fun v0 v1 v2 v4 v5 v6 v9 v10 v11 v13 v15 v25 v27 => 
 uEq true .neq v9 (.n 0) S fun v28 S =>
 κ .normal (.mk v0 v1 v2 v4 v5 v6 v9 v10 v11 v13 v15 v28 v27) S) v
def u15_3 : W13 → FV := fun v => W13.rec (motive := fun _ => FV) (fun v0 v1 v2 v4 v5 v6 v9 v10 v11 v13 v15 v25 v27 => v25) v
def u15_4 (C : CU) : CdU W13 := fun v S κ => W13.rec (motive := fun _ => RU) (fun v0 v1 v2 v4 v5 v6 v9 v10 v11 v13 v15 v25 v27 => 
 κ .normal (.mk v0 v1 v2 (.t false) v5 v6 v9 v10 v11 v13 v15 v25 v27) S) v
def u15_5 (C : CU) : CdU W13 := fun v S κ => W13.rec (motive := fun _ => RU) (fun v0 v1 v2 v4 v5 v6 v9 v10 v11 v13 v15 v25 v27 => 
 uEq true .neq v5 (.n 0) S fun v28 S =>
 κ .normal (.mk v0 v1 v2 v4 v5 v6 v9 v10 v11 v13 v15 v25 v28) S) v
def u15_6 : W13 → FV := fun v => W13.rec (motive := fun _ => FV) (fun v0 v1 v2 v4 v5 v6 v9 v10 v11 v13 v15 v25 v27 => v27) v
def u15_7 (C : CU) : CdU W13 := fun v S κ => W13.rec (motive := fun _ => RU) (fun v0 v1 v2 v4 v5 v6 v9 v10 v11 v13 v15 v25 v27 => 
 uCall C 30 [v5] S fun v28 S =>
 κ .normal (.mk v0 v1 v2 v28 v5 v6 v9 v10 v11 v13 v15 v25 v27) S) v
def u15_8 (C : CU) : CdU W13 := fun v S κ => W13.rec (motive := fun _ => RU) (fun v0 v1 v2 v4 v5 v6 v9 v10 v11 v13 v15 v25 v27 => 
 uCall C 31 [v6, (.s [46])] S fun v28 S =>
 uExt 0 v28 S fun v29 S =>
 uExt 1 v28 S fun v30 S =>
 uExt 2 v28 S fun v31 S =>
 uNewF 9 1 [(.s [])] S fun v32 S =>
 uSt 1 v32 v30 S fun v33 S =>
 κ .normal (.mk v0 v1 v2 v4 v5 v6 v9 v29 v32 v13 v15 v25 v27) S) v
def u15_9 (C : CU) : CdU W13 := fun v S κ => W13.rec (motive := fun _ => RU) (fun v0 v1 v2 v4 v5 v6 v9 v10 v11 v13 v15 v25 v27 => 
 uLd (some 2) v2 S fun v28 S =>
 uCall C 32 [v28, v10] S fun v29 S =>
 uExt 0 v29 S fun v30 S =>
 uExt 1 v29 S fun v31 S =>
 uNewF 51 3 [.nl, .nl, .nl] S fun v32 S =>
 uSt 3 v32 v30 S fun v33 S =>
 κ .normal (.mk v0 v1 v2 v4 v5 v6 v9 v10 v11 v32 v15 v25 v27) S) v
def u15_10 (C : CU) : CdU W13 := fun v S κ => W13.rec (motive := fun _ => RU) (fun v0 v1 v2 v4 v5 v6 v9 v10 v11 v13 v15 v25 v27 => 
 uFad 2 v13 S fun v28 S =>
 uLd none v28 S fun v29 S =>
 uMkf 34 [] [v11] S fun v30 S =>
 uCall C 33 [v29, v30] S fun v31 S =>
 κ .normal (.mk v0 v1 v2 v4 v5 v6 v9 v10 v11 v13 v31 v25 v27) S) v
def u15_11 (C : CU) : CdU W13 := fun v S κ => W13.rec (motive := fun _ => RU) (fun v0 v1 v2 v4 v5 v6 v9 v10 v11 v13 v15 v25 v27 => 
 uCmp (fun a b => Nat.ble b a) .geq v15 (.n 0) S fun v28 S =>
 eT v28 fun b => cn b
 (uFad 2 v13 S fun v29 S =>
 uLd none v29 S fun v30 S =>
 uIad 12 v30 v15 S fun v31 S =>
 uFad 0 v31 S fun v32 S =>
 uLd none v32 S fun v33 S =>
 uEq false .eql v33 (.n 2) S fun v34 S =>
 κ .normal (.mk v0 v1 v2 v34 v5 v6 v9 v10 v11 v13 v15 v25 v27) S)
 (κ .normal (.mk v0 v1 v2 (.t false) v5 v6 v9 v10 v11 v13 v15 v25 v27) S)) v
def u15r (v : W13) (S : FAW) : RU := W13.rec (motive := fun _ => RU) (fun v0 v1 v2 v4 v5 v6 v9 v10 v11 v13 v15 v25 v27 => .ok v4 S) v
def u15 : Fu := fun C n args S => (seqU (u15_0 C) (seqU (u15_1 C) (seqU (seqU (u15_2 C) (condU u15_3 (seqU (u15_4 C) (retU)) (skipU))) (seqU (seqU (u15_5 C) (condU u15_6 (seqU (u15_7 C) (retU)) (skipU))) (seqU (u15_8 C) (seqU (u15_9 C) (seqU (u15_10 C) (seqU (u15_11 C) (retU)))))))) : CdU W13) (.mk (argU args 0) (argU args 1) (argU args 2) (argU args 4) (argU args 5) (argU args 6) (argU args 9) (argU args 10) (argU args 11) (argU args 13) (argU args 15) (argU args 25) (argU args 27)) S fun o v S => exU o (u15r v S) (fun _ => .no) (u15r v S)
/-! assayer/assayerref5.Plain -/
def u18_0 (C : CU) : CdU W6 := fun v S κ => W6.rec (motive := fun _ => RU) (fun v0 v2 v3 v20 v24 v38 => 
 κ .normal (.mk v0 (.t false) v3 v20 v24 v38) S) v
def u18_1 (C : CU) : CdU W6 := fun v S κ => W6.rec (motive := fun _ => RU) (fun v0 v2 v3 v20 v24 v38 => 
 uEq false .eql v0 (.s []) S fun v39 S =>
 eT v39 fun b => cn b
 (κ .normal (.mk v0 v2 v3 (.t true) v24 v38) S)
 (uLen true v0 S fun v40 S =>
 uCmp (fun a b => ltN b a) .gtr v40 (.n 40) S fun v41 S =>
 eT v41 fun b => cn b
 (κ .normal (.mk v0 v2 v3 (.t true) v24 v38) S)
 (uIdxS v0 (.n 0) S fun v42 S =>
 uCall C 39 [v42] S fun v43 S =>
 uNot v43 S fun v44 S =>
 eT v44 fun b => cn b
 (κ .normal (.mk v0 v2 v3 (.t true) v24 v38) S)
 (uCall C 40 [v0] S fun v45 S =>
 κ .normal (.mk v0 v2 v3 v45 v24 v38) S)))) v
def u18_2 : W6 → FV := fun v => W6.rec (motive := fun _ => FV) (fun v0 v2 v3 v20 v24 v38 => v20) v
def u18_3 (C : CU) : CdU W6 := fun v S κ => W6.rec (motive := fun _ => RU) (fun v0 v2 v3 v20 v24 v38 => 
 κ .normal (.mk v0 (.t false) v3 v20 v24 v38) S) v
def u18_4 (C : CU) : CdU W6 := fun v S κ => W6.rec (motive := fun _ => RU) (fun v0 v2 v3 v20 v24 v38 => 
 κ .normal (.mk v0 v2 (.n 0) v20 v24 v38) S) v
def u18_5 (C : CU) : CdU W6 := fun v S κ => W6.rec (motive := fun _ => RU) (fun v0 v2 v3 v20 v24 v38 => 
 uLen true v0 S fun v39 S =>
 uCmp ltN .lss v3 v39 S fun v40 S =>
 κ .normal (.mk v0 v2 v3 v20 v40 v38) S) v
def u18_6 : W6 → FV := fun v => W6.rec (motive := fun _ => FV) (fun v0 v2 v3 v20 v24 v38 => v24) v
def u18_7 (C : CU) : CdU W6 := fun v S κ => W6.rec (motive := fun _ => RU) (fun v0 v2 v3 v20 v24 v38 => 
 uIdxS v0 v3 S fun v39 S =>
 uCall C 39 [v39] S fun v40 S =>
 uNot v40 S fun v41 S =>
 eT v41 fun b => cn b
 (uIdxS v0 v3 S fun v42 S =>
 uCall C 41 [v42] S fun v43 S =>
 uNot v43 S fun v44 S =>
 κ .normal (.mk v0 v2 v3 v20 v24 v44) S)
 (κ .normal (.mk v0 v2 v3 v20 v24 (.t false)) S)) v
def u18_8 : W6 → FV := fun v => W6.rec (motive := fun _ => FV) (fun v0 v2 v3 v20 v24 v38 => v38) v
def u18_9 (C : CU) : CdU W6 := fun v S κ => W6.rec (motive := fun _ => RU) (fun v0 v2 v3 v20 v24 v38 => 
 κ .normal (.mk v0 (.t false) v3 v20 v24 v38) S) v
def u18_10 (C : CU) : CdU W6 := fun v S κ => W6.rec (motive := fun _ => RU) (fun v0 v2 v3 v20 v24 v38 => 
 uAdd v3 (.n 1) S fun v39 S =>
 κ .normal (.mk v0 v2 v39 v20 v24 v38) S) v
def u18_11 (C : CU) (n : Nat) : CdU W6 := seqU (seqU (u18_5 C) (condU u18_6 (skipU) (exitU 0))) (seqU (blockU 1 (seqU (u18_7 C) (condU u18_8 (seqU (u18_9 C) (retU)) (skipU)))) (u18_10 C))
def u18_12 (C : CU) : CdU W6 := fun v S κ => W6.rec (motive := fun _ => RU) (fun v0 v2 v3 v20 v24 v38 => 
 κ .normal (.mk v0 (.t true) v3 v20 v24 v38) S) v
def u18r (v : W6) (S : FAW) : RU := W6.rec (motive := fun _ => RU) (fun v0 v2 v3 v20 v24 v38 => .ok v2 S) v
def u18 : Fu := fun C n args S => (seqU (u18_0 C) (seqU (seqU (u18_1 C) (condU u18_2 (seqU (u18_3 C) (retU)) (skipU))) (seqU (seqU (u18_4 C) (blockU 0 (loopU n (u18_11 C n)))) (seqU (u18_12 C) (retU)))) : CdU W6) (.mk (argU args 0) (argU args 2) (argU args 3) (argU args 20) (argU args 24) (argU args 38)) S fun o v S => exU o (u18r v S) (fun _ => .no) (u18r v S)
/-! (*assayer/assayerref9.loader).text -/
def u19_0 (C : CU) : CdU W7 := fun v S κ => W7.rec (motive := fun _ => RU) (fun v0 v1 v4 v5 v6 v14 v27 => 
 κ .normal (.mk v0 v1 (.s []) (.t false) v6 v14 v27) S) v
def u19_1 (C : CU) : CdU W7 := fun v S κ => W7.rec (motive := fun _ => RU) (fun v0 v1 v4 v5 v6 v14 v27 => 
 κ .normal (.mk v0 v1 v4 v5 (.n 0) v14 v27) S) v
def u19_2 (C : CU) : CdU W7 := fun v S κ => W7.rec (motive := fun _ => RU) (fun v0 v1 v4 v5 v6 v14 v27 => 
 uNilc v0 S fun v28 S =>
 uFad 0 v28 S fun v29 S =>
 uFad 1 v29 S fun v30 S =>
 uLd none v30 S fun v31 S =>
 uLen false v31 S fun v32 S =>
 uCmp ltN .lss v6 v32 S fun v33 S =>
 κ .normal (.mk v0 v1 v4 v5 v6 v33 v27) S) v
def u19_3 : W7 → FV := fun v => W7.rec (motive := fun _ => FV) (fun v0 v1 v4 v5 v6 v14 v27 => v14) v
def u19_4 (C : CU) : CdU W7 := fun v S κ => W7.rec (motive := fun _ => RU) (fun v0 v1 v4 v5 v6 v14 v27 => 
 uNilc v0 S fun v28 S =>
 uFad 0 v28 S fun v29 S =>
 uFad 1 v29 S fun v30 S =>
 uLd none v30 S fun v31 S =>
 uIad 2 v31 v6 S fun v32 S =>
 uFad 0 v32 S fun v33 S =>
 uLd none v33 S fun v34 S =>
 uEq false .eql v34 v1 S fun v35 S =>
 κ .normal (.mk v0 v1 v4 v5 v6 v14 v35) S) v
def u19_5 : W7 → FV := fun v => W7.rec (motive := fun _ => FV) (fun v0 v1 v4 v5 v6 v14 v27 => v27) v
def u19_6 (C : CU) : CdU W7 := fun v S κ => W7.rec (motive := fun _ => RU) (fun v0 v1 v4 v5 v6 v14 v27 => 
 uNilc v0 S fun v28 S =>
 uFad 0 v28 S fun v29 S =>
 uFad 1 v29 S fun v30 S =>
 uLd none v30 S fun v31 S =>
 uIad 2 v31 v6 S fun v32 S =>
 uFad 1 v32 S fun v33 S =>
 uLd none v33 S fun v34 S =>
 κ .normal (.mk v0 v1 v34 (.t true) v6 v14 v27) S) v
def u19_7 (C : CU) : CdU W7 := fun v S κ => W7.rec (motive := fun _ => RU) (fun v0 v1 v4 v5 v6 v14 v27 => 
 uAdd v6 (.n 1) S fun v28 S =>
 κ .normal (.mk v0 v1 v4 v5 v28 v14 v27) S) v
def u19_8 (C : CU) (n : Nat) : CdU W7 := seqU (seqU (u19_2 C) (condU u19_3 (skipU) (exitU 0))) (seqU (blockU 1 (seqU (u19_4 C) (condU u19_5 (seqU (u19_6 C) (retU)) (skipU)))) (u19_7 C))
def u19_9 (C : CU) : CdU W7 := fun v S κ => W7.rec (motive := fun _ => RU) (fun v0 v1 v4 v5 v6 v14 v27 => 
 κ .normal (.mk v0 v1 (.s []) (.t false) v6 v14 v27) S) v
def u19r (v : W7) (S : FAW) : RU := W7.rec (motive := fun _ => RU) (fun v0 v1 v4 v5 v6 v14 v27 => .ok (.u [v4, v5]) S) v
def u19 : Fu := fun C n args S => (seqU (u19_0 C) (seqU (seqU (u19_1 C) (blockU 0 (loopU n (u19_8 C n)))) (seqU (u19_9 C) (retU))) : CdU W7) (.mk (argU args 0) (argU args 1) (argU args 4) (argU args 5) (argU args 6) (argU args 14) (argU args 27)) S fun o v S => exU o (u19r v S) (fun _ => .no) (u19r v S)
/-! (*assayer/assayerref9.loader).down -/
def u20_0 (C : CU) : CdU W14 := fun v S κ => W14.rec (motive := fun _ => RU) (fun v0 v1 v4 v6 v7 v8 v9 v10 v12 v26 v55 v69 v79 v85 => 
 uCall C 19 [v0, v1] S fun v86 S =>
 uExt 0 v86 S fun v87 S =>
 uExt 1 v86 S fun v88 S =>
 κ .normal (.mk v0 v1 v87 v6 v7 v8 v9 v10 v12 v26 v55 v69 v79 v85) S) v
def u20_1 (C : CU) : CdU W14 := fun v S κ => W14.rec (motive := fun _ => RU) (fun v0 v1 v4 v6 v7 v8 v9 v10 v12 v26 v55 v69 v79 v85 => 
 uCall C 42 [v4] S fun v86 S =>
 uExt 0 v86 S fun v87 S =>
 uExt 1 v86 S fun v88 S =>
 uExt 2 v86 S fun v89 S =>
 uNewF 51 3 [.nl, .nl, .nl] S fun v90 S =>
 uSt 3 v90 v87 S fun v91 S =>
 κ .normal (.mk v0 v1 v4 v90 v88 v89 v9 v10 v12 v26 v55 v69 v79 v85) S) v
def u20_2 (C : CU) : CdU W14 := fun v S κ => W14.rec (motive := fun _ => RU) (fun v0 v1 v4 v6 v7 v8 v9 v10 v12 v26 v55 v69 v79 v85 => 
 uEq true .neq v7 (.n 0) S fun v86 S =>
 κ .normal (.mk v0 v1 v4 v6 v7 v8 v9 v10 v12 v86 v55 v69 v79 v85) S) v
def u20_3 : W14 → FV := fun v => W14.rec (motive := fun _ => FV) (fun v0 v1 v4 v6 v7 v8 v9 v10 v12 v26 v55 v69 v79 v85 => v26) v
def u20_4 (C : CU) : CdU W14 := fun v S κ => W14.rec (motive := fun _ => RU) (fun v0 v1 v4 v6 v7 v8 v9 v10 v12 v26 v55 v69 v79 v85 => 
 uCall C 43 [v0, v7, v1, v8] S fun v86 S =>
 κ .normal (.mk v0 v1 v4 v6 v7 v8 v9 v10 v12 v26 v55 v69 v79 v85) S) v
def u20_5 (C : CU) : CdU W14 := fun v S κ => W14.rec (motive := fun _ => RU) (fun v0 v1 v4 v6 v7 v8 v9 v10 v12 v26 v55 v69 v79 v85 => 
 uLitF 9 1 [(.s [])] 0 [] S fun v86 S =>
 uGet 4 v0 S fun v89 S =>
 uApp 9 1 16 v86 v89 S fun v90 S =>
 uLitF 9 1 [(.s [])] 1 [(0, 1, v1)] S fun v91 S =>
 uApp 9 1 16 v90 v91 S fun v92 S =>
 uNilc v0 S fun v93 S =>
 uFad 4 v93 S fun v94 S =>
 uSt 1 v94 v92 S fun v95 S =>
 κ .normal (.mk v0 v1 v4 v6 v7 v8 v9 v10 v12 v26 v55 v69 v79 v85) S) v
def u20_6 (C : CU) : CdU W14 := fun v S κ => W14.rec (motive := fun _ => RU) (fun v0 v1 v4 v6 v7 v8 v9 v10 v12 v26 v55 v69 v79 v85 => 
 κ .normal (.mk v0 v1 v4 v6 v7 v8 (.n 0) v10 v12 v26 v55 v69 v79 v85) S) v
def u20_7 (C : CU) : CdU W14 := fun v S κ => W14.rec (motive := fun _ => RU) (fun v0 v1 v4 v6 v7 v8 v9 v10 v12 v26 v55 v69 v79 v85 => 
 uFad 0 v6 S fun v86 S =>
 uLd none v86 S fun v87 S =>
 uLen false v87 S fun v88 S =>
 uCmp ltN .lss v9 v88 S fun v89 S =>
 eT v89 fun b => cn b
 (uGet 5 v0 S fun v92 S =>
 uEq false .eql v92 (.n 0) S fun v93 S =>
 κ .normal (.mk v0 v1 v4 v6 v7 v8 v9 v10 v12 v26 v93 v69 v79 v85) S)
 (κ .normal (.mk v0 v1 v4 v6 v7 v8 v9 v10 v12 v26 (.t false) v69 v79 v85) S)) v
def u20_8 : W14 → FV := fun v => W14.rec (motive := fun _ => FV) (fun v0 v1 v4 v6 v7 v8 v9 v10 v12 v26 v55 v69 v79 v85 => v55) v
def u20_9 (C : CU) : CdU W14 := fun v S κ => W14.rec (motive := fun _ => RU) (fun v0 v1 v4 v6 v7 v8 v9 v10 v12 v26 v55 v69 v79 v85 => 
 uFad 0 v6 S fun v86 S =>
 uLd none v86 S fun v87 S =>
 uIad 1 v87 v9 S fun v88 S =>
 uLd none v88 S fun v89 S =>
 κ .normal (.mk v0 v1 v4 v6 v7 v8 v9 v89 v12 v26 v55 v69 v79 v85) S) v
def u20_10 (C : CU) : CdU W14 := fun v S κ => W14.rec (motive := fun _ => RU) (fun v0 v1 v4 v6 v7 v8 v9 v10 v12 v26 v55 v69 v79 v85 => 
 uCall C 19 [v0, v10] S fun v86 S =>
 uExt 0 v86 S fun v87 S =>
 uExt 1 v86 S fun v88 S =>
 κ .normal (.mk v0 v1 v4 v6 v7 v8 v9 v10 v88 v26 v55 v69 v79 v85) S) v
def u20_11 (C : CU) : CdU W14 := fun v S κ => W14.rec (motive := fun _ => RU) (fun v0 v1 v4 v6 v7 v8 v9 v10 v12 v26 v55 v69 v79 v85 => 
 uGet 4 v0 S fun v88 S =>
 uCall C 44 [v88, v10] S fun v89 S =>
 κ .normal (.mk v0 v1 v4 v6 v7 v8 v9 v10 v12 v26 v55 v89 v79 v85) S) v
def u20_12 : W14 → FV := fun v => W14.rec (motive := fun _ => FV) (fun v0 v1 v4 v6 v7 v8 v9 v10 v12 v26 v55 v69 v79 v85 => v69) v
def u20_13 (C : CU) : CdU W14 := fun v S κ => W14.rec (motive := fun _ => RU) (fun v0 v1 v4 v6 v7 v8 v9 v10 v12 v26 v55 v69 v79 v85 => 
 uCall C 43 [v0, (.n 9), v1, (.n 0)] S fun v86 S =>
 κ .normal (.mk v0 v1 v4 v6 v7 v8 v9 v10 v12 v26 v55 v69 v79 v85) S) v
def u20_14 (C : CU) : CdU W14 := fun v S κ => W14.rec (motive := fun _ => RU) (fun v0 v1 v4 v6 v7 v8 v9 v10 v12 v26 v55 v69 v79 v85 => 
 uNot v12 S fun v86 S =>
 κ .normal (.mk v0 v1 v4 v6 v7 v8 v9 v10 v12 v26 v55 v69 v86 v85) S) v
def u20_15 : W14 → FV := fun v => W14.rec (motive := fun _ => FV) (fun v0 v1 v4 v6 v7 v8 v9 v10 v12 v26 v55 v69 v79 v85 => v79) v
def u20_16 (C : CU) : CdU W14 := fun v S κ => W14.rec (motive := fun _ => RU) (fun v0 v1 v4 v6 v7 v8 v9 v10 v12 v26 v55 v69 v79 v85 => 
 uCall C 43 [v0, (.n 15), v1, (.n 0)] S fun v86 S =>
 κ .normal (.mk v0 v1 v4 v6 v7 v8 v9 v10 v12 v26 v55 v69 v79 v85) S) v
def u20_17 (C : CU) : CdU W14 := fun v S κ => W14.rec (motive := fun _ => RU) (fun v0 v1 v4 v6 v7 v8 v9 v10 v12 v26 v55 v69 v79 v85 => 
 uNilc v0 S fun v86 S =>
 uFad 2 v86 S fun v87 S =>
 uFad 0 v87 S fun v88 S =>
 uLd none v88 S fun v89 S =>
 uCall C 44 [v89, v10] S fun v90 S =>
 uNot v90 S fun v91 S =>
 κ .normal (.mk v0 v1 v4 v6 v7 v8 v9 v10 v12 v26 v55 v69 v79 v91) S) v
def u20_18 : W14 → FV := fun v => W14.rec (motive := fun _ => FV) (fun v0 v1 v4 v6 v7 v8 v9 v10 v12 v26 v55 v69 v79 v85 => v85) v
def u20_19 (C : CU) : CdU W14 := fun v S κ => W14.rec (motive := fun _ => RU) (fun v0 v1 v4 v6 v7 v8 v9 v10 v12 v26 v55 v69 v79 v85 => 
 uCall C 20 [v0, v10] S fun v86 S =>
 κ .normal (.mk v0 v1 v4 v6 v7 v8 v9 v10 v12 v26 v55 v69 v79 v85) S) v
def u20_20 (C : CU) : CdU W14 := fun v S κ => W14.rec (motive := fun _ => RU) (fun v0 v1 v4 v6 v7 v8 v9 v10 v12 v26 v55 v69 v79 v85 => 
 uAdd v9 (.n 1) S fun v86 S =>
 κ .normal (.mk v0 v1 v4 v6 v7 v8 v86 v10 v12 v26 v55 v69 v79 v85) S) v
def u20_21 (C : CU) (n : Nat) : CdU W14 := seqU (seqU (u20_7 C) (condU u20_8 (skipU) (exitU 0))) (seqU (blockU 1 (seqU (u20_9 C) (seqU (u20_10 C) (blockU 2 (seqU (u20_11 C) (condU u20_12 (u20_13 C) (seqU (u20_14 C) (condU u20_15 (u20_16 C) (seqU (u20_17 C) (condU u20_18 (u20_19 C) (skipU))))))))))) (u20_20 C))
def u20_22 (C : CU) : CdU W14 := fun v S κ => W14.rec (motive := fun _ => RU) (fun v0 v1 v4 v6 v7 v8 v9 v10 v12 v26 v55 v69 v79 v85 => 
 uGet 4 v0 S fun v88 S =>
 uGet 4 v0 S fun v91 S =>
 uLen false v91 S fun v92 S =>
 uSub v92 (.n 1) S fun v93 S =>
 uSlV 1 v88 none (some v93) none S fun v94 S =>
 uNilc v0 S fun v95 S =>
 uFad 4 v95 S fun v96 S =>
 uSt 1 v96 v94 S fun v97 S =>
 κ .normal (.mk v0 v1 v4 v6 v7 v8 v9 v10 v12 v26 v55 v69 v79 v85) S) v
def u20_23 (C : CU) : CdU W14 := fun v S κ => W14.rec (motive := fun _ => RU) (fun v0 v1 v4 v6 v7 v8 v9 v10 v12 v26 v55 v69 v79 v85 => 
 uNilc v0 S fun v86 S86 =>
 uFad 2 v86 S86 fun v87 S87 =>
 uFad 0 v87 S87 fun v88 S88 =>
 uLd none v88 S88 fun v89 S89 =>
 uLitF 9 1 [(.s [])] 1 [(0, 1, v1)] S89 fun v90 S90 =>
 uNilc v0 S90 fun v91 S91 =>
 uFad 2 v91 S91 fun v92 S92 =>
 uFad 1 v92 S92 fun v93 S93 =>
 uLd none v93 S93 fun v94 S94 =>
 uLd (some 3) v6 S94 fun v95 S95 =>
 uLitF 51 3 [.nl, .nl, .nl] 1 [(0, 3, v95)] S95 fun v96 S96 =>
 uLd (some 3) v6 S96 fun u _ => veqU u v95
 (uLd none v93 S96 fun u _ => veqU u v94
 (uLd none v88 S96 fun u _ => veqU u v89
 (uApp 9 1 16 v89 v90 S96 fun v98 S98 =>
 rowU2 S98 S96 v96
 (uLd (some 3) v6 S98 fun u _ => veqU u v95
 (uLd none v93 S98 fun u _ => veqU u v94
 (uApp 51 3 72 v94 v96 S98 fun v99 S99 =>
 uNilc v0 S99 fun v100 S100 =>
 uFad 2 v100 S100 fun v101 S101 =>
 uFad 0 v101 S101 fun v102 S102 =>
 uSt 1 v102 v98 S102 fun v103 S103 =>
 uNilc v0 S103 fun v104 S104 =>
 uFad 2 v104 S104 fun v105 S105 =>
 uFad 1 v105 S105 fun v106 S106 =>
 uSt 1 v106 v99 S106 fun v107 S107 =>
 κ .normal (.mk v0 v1 v4 v6 v7 v8 v9 v10 v12 v26 v55 v69 v79 v85) S107))))))) v
def u20r (v : W14) (S : FAW) : RU := W14.rec (motive := fun _ => RU) (fun v0 v1 v4 v6 v7 v8 v9 v10 v12 v26 v55 v69 v79 v85 => .ok (.u []) S) v
def u20 : Fu := fun C n args S => (seqU (u20_0 C) (seqU (u20_1 C) (seqU (seqU (u20_2 C) (condU u20_3 (seqU (u20_4 C) (retU)) (skipU))) (seqU (u20_5 C) (seqU (seqU (u20_6 C) (blockU 0 (loopU n (u20_21 C n)))) (seqU (u20_22 C) (u20_23 C)))))) : CdU W14) (.mk (argU args 0) (argU args 1) (argU args 4) (argU args 6) (argU args 7) (argU args 8) (argU args 9) (argU args 10) (argU args 12) (argU args 26) (argU args 55) (argU args 69) (argU args 79) (argU args 85)) S fun o v S => exU o (u20r v S) (fun _ => .no) (u20r v S)
/-! assayer/kind.May -/
def u23_0 (C : CU) : CdU W3 := fun v S κ => W3.rec (motive := fun _ => RU) (fun v0 v2 v3 => 
 κ .normal (.mk v0 (.t false) v3) S) v
def u23_1 (C : CU) : CdU W3 := fun v S κ => W3.rec (motive := fun _ => RU) (fun v0 v2 v3 => 
 uCall C 49 [v0] S fun v4 S =>
 uExt 0 v4 S fun v5 S =>
 uExt 1 v4 S fun v6 S =>
 uExt 2 v4 S fun v7 S =>
 κ .normal (.mk v0 v2 v5) S) v
def u23_2 (C : CU) : CdU W3 := fun v S κ => W3.rec (motive := fun _ => RU) (fun v0 v2 v3 => 
 uGet 2 v3 S fun v6 S =>
 uEq false .eql v6 (.n 0) S fun v7 S =>
 κ .normal (.mk v0 v7 v3) S) v
def u23r (v : W3) (S : FAW) : RU := W3.rec (motive := fun _ => RU) (fun v0 v2 v3 => .ok v2 S) v
def u23 : Fu := fun C n args S => (seqU (u23_0 C) (seqU (u23_1 C) (seqU (u23_2 C) (retU))) : CdU W3) (.mk (argU args 0) (argU args 2) (argU args 3)) S fun o v S => exU o (u23r v S) (fun _ => .no) (u23r v S)
/-! (*assayer/alias.walker).one -/
def u24_0 (C : CU) : CdU W18 := fun v S κ => W18.rec (motive := fun _ => RU) (fun v0 v1 v2 v6 v7 v8 v9 v10 v11 v12 v29 v30 v31 v39 v48 v54 v64 v76 => 
 κ .normal (.mk v0 v1 v2 (.s []) (.n 0) v8 v9 v10 v11 v12 v29 v30 v31 v39 v48 v54 v64 v76) S) v
def u24_1 (C : CU) : CdU W18 := fun v S κ => W18.rec (motive := fun _ => RU) (fun v0 v1 v2 v6 v7 v8 v9 v10 v11 v12 v29 v30 v31 v39 v48 v54 v64 v76 => 
 uCall C 29 [v2] S fun v77 S =>
 uExt 0 v77 S fun v78 S =>
 uExt 1 v77 S fun v79 S =>
 uExt 2 v77 S fun v80 S =>
 uExt 3 v77 S fun v81 S =>
 uExt 4 v77 S fun v82 S =>
 κ .normal (.mk v0 v1 v2 v6 v7 v78 v79 v80 v81 v82 v29 v30 v31 v39 v48 v54 v64 v76) S) v
def u24_2 (C : CU) : CdU W18 := fun v S κ => W18.rec (motive := fun _ => RU) (fun v0 v1 v2 v6 v7 v8 v9 v10 v11 v12 v29 v30 v31 v39 v48 v54 v64 v76 => 
 uEq true .neq v12 (.n 0) S fun v77 S =>
 uCall C 25 [v0, v77, (.n 2)] S fun v78 S =>
 κ .normal (.mk v0 v1 v2 v6 v7 v8 v9 v10 v11 v12 v29 v30 v31 v39 v48 v54 v64 v76) S) v
def u24_3 (C : CU) : CdU W18 := fun v S κ => W18.rec (motive := fun _ => RU) (fun v0 v1 v2 v6 v7 v8 v9 v10 v11 v12 v29 v30 v31 v39 v48 v54 v64 v76 => 
 uGet 3 v0 S fun v79 S =>
 uEq true .neq v79 (.n 0) S fun v80 S =>
 κ .normal (.mk v0 v1 v2 v6 v7 v8 v9 v10 v11 v12 v80 v30 v31 v39 v48 v54 v64 v76) S) v
def u24_4 : W18 → FV := fun v => W18.rec (motive := fun _ => FV) (fun v0 v1 v2 v6 v7 v8 v9 v10 v11 v12 v29 v30 v31 v39 v48 v54 v64 v76 => v29) v
def u24_5 (C : CU) : CdU W18 := fun v S κ => W18.rec (motive := fun _ => RU) (fun v0 v1 v2 v6 v7 v8 v9 v10 v11 v12 v29 v30 v31 v39 v48 v54 v64 v76 => 
 κ .normal (.mk v0 v1 v2 (.s []) (.n 0) v8 v9 v10 v11 v12 v29 v30 v31 v39 v48 v54 v64 v76) S) v
def u24_6 (C : CU) : CdU W18 := fun v S κ => W18.rec (motive := fun _ => RU) (fun v0 v1 v2 v6 v7 v8 v9 v10 v11 v12 v29 v30 v31 v39 v48 v54 v64 v76 => 
 κ .normal (.mk v0 v1 v2 v6 v7 v8 v9 v10 v11 v12 v29 v8 v31 v39 v48 v54 v64 v76) S) v
def u24_7 (C : CU) : CdU W18 := fun v S κ => W18.rec (motive := fun _ => RU) (fun v0 v1 v2 v6 v7 v8 v9 v10 v11 v12 v29 v30 v31 v39 v48 v54 v64 v76 => 
 uEq false .eql v30 (.n 0) S fun v77 S =>
 κ .normal (.mk v0 v1 v2 v6 v7 v8 v9 v10 v11 v12 v29 v30 v77 v39 v48 v54 v64 v76) S) v
def u24_8 : W18 → FV := fun v => W18.rec (motive := fun _ => FV) (fun v0 v1 v2 v6 v7 v8 v9 v10 v11 v12 v29 v30 v31 v39 v48 v54 v64 v76 => v31) v
def u24_9 (C : CU) : CdU W18 := fun v S κ => W18.rec (motive := fun _ => RU) (fun v0 v1 v2 v6 v7 v8 v9 v10 v11 v12 v29 v30 v31 v39 v48 v54 v64 v76 => 
 uCall C 50 [v0, v1, v9] S fun v77 S =>
 uExt 0 v77 S fun v78 S =>
 uExt 1 v77 S fun v79 S =>
 κ .normal (.mk v0 v1 v2 v78 v79 v8 v9 v10 v11 v12 v29 v30 v31 v39 v48 v54 v64 v76) S) v
def u24_10 (C : CU) : CdU W18 := fun v S κ => W18.rec (motive := fun _ => RU) (fun v0 v1 v2 v6 v7 v8 v9 v10 v11 v12 v29 v30 v31 v39 v48 v54 v64 v76 => 
 uEq false .eql v30 (.n 15) S fun v77 S =>
 κ .normal (.mk v0 v1 v2 v6 v7 v8 v9 v10 v11 v12 v29 v30 v31 v77 v48 v54 v64 v76) S) v
def u24_11 : W18 → FV := fun v => W18.rec (motive := fun _ => FV) (fun v0 v1 v2 v6 v7 v8 v9 v10 v11 v12 v29 v30 v31 v39 v48 v54 v64 v76 => v39) v
def u24_12 (C : CU) : CdU W18 := fun v S κ => W18.rec (motive := fun _ => RU) (fun v0 v1 v2 v6 v7 v8 v9 v10 v11 v12 v29 v30 v31 v39 v48 v54 v64 v76 => 
 uCall C 24 [v0, v1, v10] S fun v77 S =>
 uExt 0 v77 S fun v78 S =>
 uExt 1 v77 S fun v79 S =>
 κ .normal (.mk v0 v1 v2 v6 v7 v8 v9 v78 v11 v12 v29 v30 v31 v39 v48 v54 v64 v76) S) v
def u24_13 (C : CU) : CdU W18 := fun v S κ => W18.rec (motive := fun _ => RU) (fun v0 v1 v2 v6 v7 v8 v9 v10 v11 v12 v29 v30 v31 v39 v48 v54 v64 v76 => 
 uEq false .eql v30 (.n 14) S fun v77 S =>
 κ .normal (.mk v0 v1 v2 v6 v7 v8 v9 v10 v11 v12 v29 v30 v31 v39 v77 v54 v64 v76) S) v
def u24_14 : W18 → FV := fun v => W18.rec (motive := fun _ => FV) (fun v0 v1 v2 v6 v7 v8 v9 v10 v11 v12 v29 v30 v31 v39 v48 v54 v64 v76 => v48) v
def u24_15 (C : CU) : CdU W18 := fun v S κ => W18.rec (motive := fun _ => RU) (fun v0 v1 v2 v6 v7 v8 v9 v10 v11 v12 v29 v30 v31 v39 v48 v54 v64 v76 => 
 uCall C 51 [v0, v1, v10] S fun v77 S =>
 κ .normal (.mk v0 v1 v2 v6 v7 v8 v9 v77 v11 v12 v29 v30 v31 v39 v48 v54 v64 v76) S) v
def u24_16 (C : CU) : CdU W18 := fun v S κ => W18.rec (motive := fun _ => RU) (fun v0 v1 v2 v6 v7 v8 v9 v10 v11 v12 v29 v30 v31 v39 v48 v54 v64 v76 => 
 uEq false .eql v30 (.n 13) S fun v77 S =>
 κ .normal (.mk v0 v1 v2 v6 v7 v8 v9 v10 v11 v12 v29 v30 v31 v39 v48 v77 v64 v76) S) v
def u24_17 : W18 → FV := fun v => W18.rec (motive := fun _ => FV) (fun v0 v1 v2 v6 v7 v8 v9 v10 v11 v12 v29 v30 v31 v39 v48 v54 v64 v76 => v54) v
def u24_18 (C : CU) : CdU W18 := fun v S κ => W18.rec (motive := fun _ => RU) (fun v0 v1 v2 v6 v7 v8 v9 v10 v11 v12 v29 v30 v31 v39 v48 v54 v64 v76 => 
 uCall C 51 [v0, v1, v10] S fun v77 S =>
 κ .normal (.mk v0 v1 v2 v6 v7 v8 v9 v77 v11 v12 v29 v30 v31 v39 v48 v54 v64 v76) S) v
def u24_19 (C : CU) : CdU W18 := fun v S κ => W18.rec (motive := fun _ => RU) (fun v0 v1 v2 v6 v7 v8 v9 v10 v11 v12 v29 v30 v31 v39 v48 v54 v64 v76 => 
 uGet 3 v0 S fun v79 S =>
 uEq false .eql v79 (.n 0) S fun v80 S =>
 κ .normal (.mk v0 v1 v2 v6 v7 v8 v9 v10 v11 v12 v29 v30 v31 v39 v48 v54 v80 v76) S) v
def u24_20 : W18 → FV := fun v => W18.rec (motive := fun _ => FV) (fun v0 v1 v2 v6 v7 v8 v9 v10 v11 v12 v29 v30 v31 v39 v48 v54 v64 v76 => v64) v
def u24_21 (C : CU) : CdU W18 := fun v S κ => W18.rec (motive := fun _ => RU) (fun v0 v1 v2 v6 v7 v8 v9 v10 v11 v12 v29 v30 v31 v39 v48 v54 v64 v76 => 
 uCall C 24 [v0, v1, v11] S fun v77 S =>
 uExt 0 v77 S fun v78 S =>
 uExt 1 v77 S fun v79 S =>
 κ .normal (.mk v0 v1 v2 v6 v7 v8 v9 v10 v78 v12 v29 v30 v31 v39 v48 v54 v64 v76) S) v
def u24_22 (C : CU) : CdU W18 := fun v S κ => W18.rec (motive := fun _ => RU) (fun v0 v1 v2 v6 v7 v8 v9 v10 v11 v12 v29 v30 v31 v39 v48 v54 v64 v76 => 
 uGet 3 v0 S fun v79 S =>
 uEq true .neq v79 (.n 0) S fun v80 S =>
 κ .normal (.mk v0 v1 v2 v6 v7 v8 v9 v10 v11 v12 v29 v30 v31 v39 v48 v54 v64 v80) S) v
def u24_23 : W18 → FV := fun v => W18.rec (motive := fun _ => FV) (fun v0 v1 v2 v6 v7 v8 v9 v10 v11 v12 v29 v30 v31 v39 v48 v54 v64 v76 => v76) v
def u24_24 (C : CU) : CdU W18 := fun v S κ => W18.rec (motive := fun _ => RU) (fun v0 v1 v2 v6 v7 v8 v9 v10 v11 v12 v29 v30 v31 v39 v48 v54 v64 v76 => 
 κ .normal (.mk v0 v1 v2 (.s []) (.n 0) v8 v9 v10 v11 v12 v29 v30 v31 v39 v48 v54 v64 v76) S) v
def u24_25 (C : CU) : CdU W18 := fun v S κ => W18.rec (motive := fun _ => RU) (fun v0 v1 v2 v6 v7 v8 v9 v10 v11 v12 v29 v30 v31 v39 v48 v54 v64 v76 => 
 uCall C 52 [v8, (.s []), v10, v11] S fun v77 S =>
 κ .normal (.mk v0 v1 v2 v77 v8 v8 v9 v10 v11 v12 v29 v30 v31 v39 v48 v54 v64 v76) S) v
def u24r (v : W18) (S : FAW) : RU := W18.rec (motive := fun _ => RU) (fun v0 v1 v2 v6 v7 v8 v9 v10 v11 v12 v29 v30 v31 v39 v48 v54 v64 v76 => .ok (.u [v6, v7]) S) v
def u24 : Fu := fun C n args S => (seqU (u24_0 C) (seqU (u24_1 C) (seqU (u24_2 C) (seqU (seqU (u24_3 C) (condU u24_4 (seqU (u24_5 C) (retU)) (skipU))) (seqU (seqU (u24_6 C) (blockU 0 (seqU (u24_7 C) (condU u24_8 (seqU (u24_9 C) (retU)) (seqU (u24_10 C) (condU u24_11 (u24_12 C) (seqU (u24_13 C) (condU u24_14 (u24_15 C) (seqU (u24_16 C) (condU u24_17 (seqU (u24_18 C) (seqU (u24_19 C) (condU u24_20 (u24_21 C) (skipU)))) (skipU))))))))))) (seqU (seqU (u24_22 C) (condU u24_23 (seqU (u24_24 C) (retU)) (skipU))) (seqU (u24_25 C) (retU))))))) : CdU W18) (.mk (argU args 0) (argU args 1) (argU args 2) (argU args 6) (argU args 7) (argU args 8) (argU args 9) (argU args 10) (argU args 11) (argU args 12) (argU args 29) (argU args 30) (argU args 31) (argU args 39) (argU args 48) (argU args 54) (argU args 64) (argU args 76)) S fun o v S => exU o (u24r v S) (fun _ => .no) (u24r v S)
/-! (*assayer/alias.walker).fails -/
def u25_0 (C : CU) : CdU W4 := fun v S κ => W4.rec (motive := fun _ => RU) (fun v0 v1 v2 v13 => 
 eT v1 fun b => cn b
 (uGet 3 v0 S fun v16 S =>
 uEq false .eql v16 (.n 0) S fun v17 S =>
 κ .normal (.mk v0 v1 v2 v17) S)
 (κ .normal (.mk v0 v1 v2 (.t false)) S)) v
def u25_1 : W4 → FV := fun v => W4.rec (motive := fun _ => FV) (fun v0 v1 v2 v13 => v13) v
def u25_2 (C : CU) : CdU W4 := fun v S κ => W4.rec (motive := fun _ => RU) (fun v0 v1 v2 v13 => 
 uNilc v0 S fun v14 S =>
 uFad 3 v14 S fun v15 S =>
 uSt 1 v15 v2 S fun v16 S =>
 κ .normal (.mk v0 v1 v2 v13) S) v
def u25r (v : W4) (S : FAW) : RU := W4.rec (motive := fun _ => RU) (fun v0 v1 v2 v13 => .ok (.u []) S) v
def u25 : Fu := fun C n args S => (seqU (u25_0 C) (condU u25_1 (u25_2 C) (skipU)) : CdU W4) (.mk (argU args 0) (argU args 1) (argU args 2) (argU args 13)) S fun o v S => exU o (u25r v S) (fun _ => .no) (u25r v S)
/-! assayer/alias.deep -/
def u26_0 (C : CU) : CdU W11 := fun v S κ => W11.rec (motive := fun _ => RU) (fun v0 v2 v3 v4 v5 v7 v8 v9 v13 v14 v18 => 
 κ .normal (.mk v0 (.t false) v3 v4 v5 v7 v8 v9 v13 v14 v18) S) v
def u26_1 (C : CU) : CdU W11 := fun v S κ => W11.rec (motive := fun _ => RU) (fun v0 v2 v3 v4 v5 v7 v8 v9 v13 v14 v18 => 
 κ .normal (.mk v0 v2 (.n 0) (.n 0) v5 v7 v8 v9 v13 v14 v18) S) v
def u26_2 (C : CU) : CdU W11 := fun v S κ => W11.rec (motive := fun _ => RU) (fun v0 v2 v3 v4 v5 v7 v8 v9 v13 v14 v18 => 
 uLen true v0 S fun v19 S =>
 κ .normal (.mk v0 v2 v3 v4 v5 v19 (.n 0) v9 v13 v14 v18) S) v
def u26_3 (C : CU) : CdU W11 := fun v S κ => W11.rec (motive := fun _ => RU) (fun v0 v2 v3 v4 v5 v7 v8 v9 v13 v14 v18 => 
 uCmp ltN .lss v8 v7 S fun v19 S =>
 κ .normal (.mk v0 v2 v3 v4 v5 v7 v8 v19 v13 v14 v18) S) v
def u26_4 : W11 → FV := fun v => W11.rec (motive := fun _ => FV) (fun v0 v2 v3 v4 v5 v7 v8 v9 v13 v14 v18 => v9) v
def u26_5 (C : CU) : CdU W11 := fun v S κ => W11.rec (motive := fun _ => RU) (fun v0 v2 v3 v4 v5 v7 v8 v9 v13 v14 v18 => 
 κ .normal (.mk v0 v2 v3 v4 v8 v7 v8 v9 v13 v14 v18) S) v
def u26_6 (C : CU) : CdU W11 := fun v S κ => W11.rec (motive := fun _ => RU) (fun v0 v2 v3 v4 v5 v7 v8 v9 v13 v14 v18 => 
 uIdxS v0 v5 S fun v19 S =>
 κ .normal (.mk v0 v2 v3 v4 v5 v7 v8 v9 v19 v14 v18) S) v
def u26_7 (C : CU) : CdU W11 := fun v S κ => W11.rec (motive := fun _ => RU) (fun v0 v2 v3 v4 v5 v7 v8 v9 v13 v14 v18 => 
 uEq false .eql v13 (.b 60) S fun v19 S =>
 κ .normal (.mk v0 v2 v3 v4 v5 v7 v8 v9 v13 v19 v18) S) v
def u26_8 : W11 → FV := fun v => W11.rec (motive := fun _ => FV) (fun v0 v2 v3 v4 v5 v7 v8 v9 v13 v14 v18 => v14) v
def u26_9 (C : CU) : CdU W11 := fun v S κ => W11.rec (motive := fun _ => RU) (fun v0 v2 v3 v4 v5 v7 v8 v9 v13 v14 v18 => 
 uAdd v3 (.n 1) S fun v19 S =>
 κ .normal (.mk v0 v2 v19 v4 v5 v7 v8 v9 v13 v14 v18) S) v
def u26_10 (C : CU) : CdU W11 := fun v S κ => W11.rec (motive := fun _ => RU) (fun v0 v2 v3 v4 v5 v7 v8 v9 v13 v14 v18 => 
 uEq false .eql v13 (.b 62) S fun v19 S =>
 κ .normal (.mk v0 v2 v3 v4 v5 v7 v8 v9 v13 v14 v19) S) v
def u26_11 : W11 → FV := fun v => W11.rec (motive := fun _ => FV) (fun v0 v2 v3 v4 v5 v7 v8 v9 v13 v14 v18 => v18) v
def u26_12 (C : CU) : CdU W11 := fun v S κ => W11.rec (motive := fun _ => RU) (fun v0 v2 v3 v4 v5 v7 v8 v9 v13 v14 v18 => 
 uSub v3 (.n 1) S fun v19 S =>
 κ .normal (.mk v0 v2 v19 v4 v5 v7 v8 v9 v13 v14 v18) S) v
def u26_13 (C : CU) : CdU W11 := fun v S κ => W11.rec (motive := fun _ => RU) (fun v0 v2 v3 v4 v5 v7 v8 v9 v13 v14 v18 => 
 uMM true [v4, v3] S fun v19 S =>
 κ .normal (.mk v0 v2 v3 v19 v5 v7 v8 v9 v13 v14 v18) S) v
def u26_14 (C : CU) : CdU W11 := fun v S κ => W11.rec (motive := fun _ => RU) (fun v0 v2 v3 v4 v5 v7 v8 v9 v13 v14 v18 => 
 uAdd v8 (.n 1) S fun v19 S =>
 κ .normal (.mk v0 v2 v3 v4 v5 v7 v19 v9 v13 v14 v18) S) v
def u26_15 (C : CU) (n : Nat) : CdU W11 := seqU (u26_3 C) (seqU (condU u26_4 (skipU) (exitU 0)) (seqU (blockU 1 (seqU (u26_5 C) (seqU (seqU (u26_6 C) (blockU 2 (seqU (u26_7 C) (condU u26_8 (u26_9 C) (seqU (u26_10 C) (condU u26_11 (u26_12 C) (skipU))))))) (u26_13 C)))) (u26_14 C)))
def u26_16 (C : CU) : CdU W11 := fun v S κ => W11.rec (motive := fun _ => RU) (fun v0 v2 v3 v4 v5 v7 v8 v9 v13 v14 v18 => 
 uCmp (fun a b => ltN b a) .gtr v4 (.n 12) S fun v19 S =>
 κ .normal (.mk v0 v19 v3 v4 v5 v7 v8 v9 v13 v14 v18) S) v
def u26r (v : W11) (S : FAW) : RU := W11.rec (motive := fun _ => RU) (fun v0 v2 v3 v4 v5 v7 v8 v9 v13 v14 v18 => .ok v2 S) v
def u26 : Fu := fun C n args S => (seqU (u26_0 C) (seqU (u26_1 C) (seqU (seqU (u26_2 C) (blockU 0 (loopU n (u26_15 C n)))) (seqU (u26_16 C) (retU)))) : CdU W11) (.mk (argU args 0) (argU args 2) (argU args 3) (argU args 4) (argU args 5) (argU args 7) (argU args 8) (argU args 9) (argU args 13) (argU args 14) (argU args 18)) S fun o v S => exU o (u26r v S) (fun _ => .no) (u26r v S)
/-! assayer/kind.Head -/
def u29_0 (C : CU) : CdU W13 := fun v S κ => W13.rec (motive := fun _ => RU) (fun v0 v2 v3 v4 v5 v6 v7 v8 v9 v16 v26 v30 v46 => 
 κ .normal (.mk v0 (.n 0) (.s []) (.s []) (.s []) (.n 0) v7 v8 v9 v16 v26 v30 v46) S) v
def u29_1 (C : CU) : CdU W13 := fun v S κ => W13.rec (motive := fun _ => RU) (fun v0 v2 v3 v4 v5 v6 v7 v8 v9 v16 v26 v30 v46 => 
 uCall C 49 [v0] S fun v47 S =>
 uExt 0 v47 S fun v48 S =>
 uExt 1 v47 S fun v49 S =>
 uExt 2 v47 S fun v50 S =>
 κ .normal (.mk v0 v49 v3 v4 v5 v6 v48 v50 v9 v16 v26 v30 v46) S) v
def u29_2 (C : CU) : CdU W13 := fun v S κ => W13.rec (motive := fun _ => RU) (fun v0 v2 v3 v4 v5 v6 v7 v8 v9 v16 v26 v30 v46 => 
 uGet 2 v7 S fun v49 S =>
 uEq true .neq v49 (.n 0) S fun v50 S =>
 κ .normal (.mk v0 v2 v3 v4 v5 v6 v7 v8 v9 v50 v26 v30 v46) S) v
def u29_3 : W13 → FV := fun v => W13.rec (motive := fun _ => FV) (fun v0 v2 v3 v4 v5 v6 v7 v8 v9 v16 v26 v30 v46 => v16) v
def u29_4 (C : CU) : CdU W13 := fun v S κ => W13.rec (motive := fun _ => RU) (fun v0 v2 v3 v4 v5 v6 v7 v8 v9 v16 v26 v30 v46 => 
 uGet 2 v7 S fun v49 S =>
 κ .normal (.mk v0 (.n 0) (.s []) (.s []) (.s []) v49 v7 v8 v9 v16 v26 v30 v46) S) v
def u29_5 (C : CU) : CdU W13 := fun v S κ => W13.rec (motive := fun _ => RU) (fun v0 v2 v3 v4 v5 v6 v7 v8 v9 v16 v26 v30 v46 => 
 uEq false .eql v2 (.n 0) S fun v47 S =>
 κ .normal (.mk v0 v2 v3 v4 v5 v6 v7 v8 v9 v16 v47 v30 v46) S) v
def u29_6 : W13 → FV := fun v => W13.rec (motive := fun _ => FV) (fun v0 v2 v3 v4 v5 v6 v7 v8 v9 v16 v26 v30 v46 => v26) v
def u29_7 (C : CU) : CdU W13 := fun v S κ => W13.rec (motive := fun _ => RU) (fun v0 v2 v3 v4 v5 v6 v7 v8 v9 v16 v26 v30 v46 => 
 κ .normal (.mk v0 (.n 0) v0 (.s []) (.s []) (.n 0) v7 v8 v9 v16 v26 v30 v46) S) v
def u29_8 (C : CU) : CdU W13 := fun v S κ => W13.rec (motive := fun _ => RU) (fun v0 v2 v3 v4 v5 v6 v7 v8 v9 v16 v26 v30 v46 => 
 uLen false v8 S fun v47 S =>
 uEq false .eql v47 (.n 0) S fun v48 S =>
 κ .normal (.mk v0 v2 v3 v4 v5 v6 v7 v8 v9 v16 v26 v48 v46) S) v
def u29_9 : W13 → FV := fun v => W13.rec (motive := fun _ => FV) (fun v0 v2 v3 v4 v5 v6 v7 v8 v9 v16 v26 v30 v46 => v30) v
def u29_10 (C : CU) : CdU W13 := fun v S κ => W13.rec (motive := fun _ => RU) (fun v0 v2 v3 v4 v5 v6 v7 v8 v9 v16 v26 v30 v46 => 
 κ .normal (.mk v0 v2 (.s []) (.s []) (.s []) (.n 0) v7 v8 v9 v16 v26 v30 v46) S) v
def u29_11 (C : CU) : CdU W13 := fun v S κ => W13.rec (motive := fun _ => RU) (fun v0 v2 v3 v4 v5 v6 v7 v8 v9 v16 v26 v30 v46 => 
 uCall C 55 [v0, (.b 60)] S fun v47 S =>
 uAdd v47 (.n 1) S fun v48 S =>
 κ .normal (.mk v0 v2 v3 v4 v5 v6 v7 v8 v48 v16 v26 v30 v46) S) v
def u29_12 (C : CU) : CdU W13 := fun v S κ => W13.rec (motive := fun _ => RU) (fun v0 v2 v3 v4 v5 v6 v7 v8 v9 v16 v26 v30 v46 => 
 uIad 1 v8 (.n 0) S fun v47 S =>
 uLd none v47 S fun v48 S =>
 uSlS v0 (some v9) (some v48) S fun v49 S =>
 κ .normal (.mk v0 v2 v3 v49 v5 v6 v7 v8 v9 v16 v26 v30 v46) S) v
def u29_13 (C : CU) : CdU W13 := fun v S κ => W13.rec (motive := fun _ => RU) (fun v0 v2 v3 v4 v5 v6 v7 v8 v9 v16 v26 v30 v46 => 
 uLen false v8 S fun v47 S =>
 uEq false .eql v47 (.n 2) S fun v48 S =>
 κ .normal (.mk v0 v2 v3 v4 v5 v6 v7 v8 v9 v16 v26 v30 v48) S) v
def u29_14 : W13 → FV := fun v => W13.rec (motive := fun _ => FV) (fun v0 v2 v3 v4 v5 v6 v7 v8 v9 v16 v26 v30 v46 => v46) v
def u29_15 (C : CU) : CdU W13 := fun v S κ => W13.rec (motive := fun _ => RU) (fun v0 v2 v3 v4 v5 v6 v7 v8 v9 v16 v26 v30 v46 => 
 uIad 1 v8 (.n 0) S fun v47 S =>
 uLd none v47 S fun v48 S =>
 uAdd v48 (.n 1) S fun v49 S =>
 uIad 1 v8 (.n 1) S fun v50 S =>
 uLd none v50 S fun v51 S =>
 uSlS v0 (some v49) (some v51) S fun v52 S =>
 κ .normal (.mk v0 v2 v3 v4 v52 v6 v7 v8 v9 v16 v26 v30 v46) S) v
def u29_16 (C : CU) : CdU W13 := fun v S κ => W13.rec (motive := fun _ => RU) (fun v0 v2 v3 v4 v5 v6 v7 v8 v9 v16 v26 v30 v46 => 
 κ .normal (.mk v0 v2 (.s []) v4 v5 (.n 0) v7 v8 v9 v16 v26 v30 v46) S) v
def u29r (v : W13) (S : FAW) : RU := W13.rec (motive := fun _ => RU) (fun v0 v2 v3 v4 v5 v6 v7 v8 v9 v16 v26 v30 v46 => .ok (.u [v2, v3, v4, v5, v6]) S) v
def u29 : Fu := fun C n args S => (seqU (u29_0 C) (seqU (u29_1 C) (seqU (blockU 0 (seqU (u29_2 C) (condU u29_3 (seqU (u29_4 C) (retU)) (seqU (u29_5 C) (condU u29_6 (seqU (u29_7 C) (retU)) (seqU (u29_8 C) (condU u29_9 (seqU (u29_10 C) (retU)) (skipU)))))))) (seqU (u29_11 C) (seqU (u29_12 C) (seqU (seqU (u29_13 C) (condU u29_14 (u29_15 C) (skipU))) (seqU (u29_16 C) (retU))))))) : CdU W13) (.mk (argU args 0) (argU args 2) (argU args 3) (argU args 4) (argU args 5) (argU args 6) (argU args 7) (argU args 8) (argU args 9) (argU args 16) (argU args 26) (argU args 30) (argU args 46)) S fun o v S => exU o (u29r v S) (fun _ => .no) (u29r v S)
/-! assayer/alias.scalar -/
def u30_0 (C : CU) : CdU W2 := fun v S κ => W2.rec (motive := fun _ => RU) (fun v0 v2 => 
 κ .normal (.mk v0 (.t false)) S) v
def u30_1 (C : CU) : CdU W2 := fun v S κ => W2.rec (motive := fun _ => RU) (fun v0 v2 => 
 uLitF 3 1 [(.n 0)] 9 [(0, 1, (.n 2)), (1, 1, (.n 3)), (2, 1, (.n 6)), (3, 1, (.n 8)), (4, 1, (.n 10)), (5, 1, (.n 4)), (6, 1, (.n 11)), (7, 1, (.n 16)), (8, 1, (.n 17))] S fun v3 S =>
 uCall C 56 [v3, v0] S fun v4 S =>
 κ .normal (.mk v0 v4) S) v
def u30r (v : W2) (S : FAW) : RU := W2.rec (motive := fun _ => RU) (fun v0 v2 => .ok v2 S) v
def u30 : Fu := fun C n args S => (seqU (u30_0 C) (seqU (u30_1 C) (retU)) : CdU W2) (.mk (argU args 0) (argU args 2)) S fun o v S => exU o (u30r v S) (fun _ => .no) (u30r v S)
/-! strings.Cut -/
def u31_0 (C : CU) : CdU W5 := fun v S κ => W5.rec (motive := fun _ => RU) (fun v0 v1 v4 v5 v6 => 
 κ .normal (.mk v0 v1 (.s []) (.s []) (.t false)) S) v
def u31_1 (C : CU) : CdU W5 := fun v S κ => W5.rec (motive := fun _ => RU) (fun v0 v1 v4 v5 v6 => 
 uCall C 57 [v0, v1] S fun v7 S =>
 uExt 0 v7 S fun v8 S =>
 uExt 1 v7 S fun v9 S =>
 uExt 2 v7 S fun v10 S =>
 κ .normal (.mk v0 v1 v8 v9 v10) S) v
def u31r (v : W5) (S : FAW) : RU := W5.rec (motive := fun _ => RU) (fun v0 v1 v4 v5 v6 => .ok (.u [v4, v5, v6]) S) v
def u31 : Fu := fun C n args S => (seqU (u31_0 C) (seqU (u31_1 C) (retU)) : CdU W5) (.mk (argU args 0) (argU args 1) (argU args 4) (argU args 5) (argU args 6)) S fun o v S => exU o (u31r v S) (fun _ => .no) (u31r v S)
/-! assayer/bundle.Get -/
def u32_0 (C : CU) : CdU W7 := fun v S κ => W7.rec (motive := fun _ => RU) (fun v0 v1 v2 v4 v5 v6 v19 => 
 uBox 37 2 v0 S fun v20 S =>
 uNewF 51 3 [.nl, .nl, .nl] S fun v21 S =>
 κ .normal (.mk v0 v1 v20 v21 (.t false) v6 v19) S) v
def u32_1 (C : CU) : CdU W7 := fun v S κ => W7.rec (motive := fun _ => RU) (fun v0 v1 v2 v4 v5 v6 v19 => 
 uFad 0 v2 S fun v20 S =>
 uLd none v20 S fun v21 S =>
 uCall C 58 [v21, v1] S fun v22 S =>
 κ .normal (.mk v0 v1 v2 v4 v5 v22 v19) S) v
def u32_2 (C : CU) : CdU W7 := fun v S κ => W7.rec (motive := fun _ => RU) (fun v0 v1 v2 v4 v5 v6 v19 => 
 uCmp ltN .lss v6 (.n 0) S fun v20 S =>
 eT v20 fun b => cn b
 (κ .normal (.mk v0 v1 v2 v4 v5 v6 (.t true)) S)
 (uFad 1 v2 S fun v21 S =>
 uLd none v21 S fun v22 S =>
 uLen false v22 S fun v23 S =>
 uCmp (fun a b => Nat.ble b a) .geq v6 v23 S fun v24 S =>
 κ .normal (.mk v0 v1 v2 v4 v5 v6 v24) S)) v
def u32_3 : W7 → FV := fun v => W7.rec (motive := fun _ => FV) (fun v0 v1 v2 v4 v5 v6 v19 => v19) v
def u32_4 (C : CU) : CdU W7 := fun v S κ => W7.rec (motive := fun _ => RU) (fun v0 v1 v2 v4 v5 v6 v19 => 
 uBuildF [.nl, .nl, .nl] [] S fun v20 S =>
 uSt 3 v4 v20 S fun v21 S =>
 κ .normal (.mk v0 v1 v2 v4 (.t false) v6 v19) S) v
def u32_5 (C : CU) : CdU W7 := fun v S κ => W7.rec (motive := fun _ => RU) (fun v0 v1 v2 v4 v5 v6 v19 => 
 uFad 1 v2 S fun v20 S =>
 uLd none v20 S fun v21 S =>
 uIad 3 v21 v6 S fun v22 S =>
 uLd (some 3) v22 S fun v23 S =>
 uSt 3 v4 v23 S fun v24 S =>
 κ .normal (.mk v0 v1 v2 v4 (.t true) v6 v19) S) v
def u32r (v : W7) (S : FAW) : RU := W7.rec (motive := fun _ => RU) (fun v0 v1 v2 v4 v5 v6 v19 => uLd (some 3) v4 S fun r4 _ => .ok (.u [r4, v5]) S) v
def u32 : Fu := fun C n args S => (seqU (u32_0 C) (seqU (u32_1 C) (seqU (seqU (u32_2 C) (condU u32_3 (seqU (u32_4 C) (retU)) (skipU))) (seqU (u32_5 C) (retU)))) : CdU W7) (.mk (argU args 0) (argU args 1) (argU args 2) (argU args 4) (argU args 5) (argU args 6) (argU args 19)) S fun o v S => exU o (u32r v S) (fun _ => .no) (u32r v S)
/-! slices.IndexFunc[[]assayer/api.Def,assayer/api.Def] -/
def u33_0 (C : CU) : CdU W8 := fun v S κ => W8.rec (motive := fun _ => RU) (fun v0 v1 v4 v5 v7 v8 v9 v16 => 
 κ .normal (.mk v0 v1 (.n 0) v5 v7 v8 v9 v16) S) v
def u33_1 (C : CU) : CdU W8 := fun v S κ => W8.rec (motive := fun _ => RU) (fun v0 v1 v4 v5 v7 v8 v9 v16 => 
 uLen false v0 S fun v17 S =>
 κ .normal (.mk v0 v1 v4 v5 v17 (.n 0) v9 v16) S) v
def u33_2 (C : CU) : CdU W8 := fun v S κ => W8.rec (motive := fun _ => RU) (fun v0 v1 v4 v5 v7 v8 v9 v16 => 
 uCmp ltN .lss v8 v7 S fun v17 S =>
 κ .normal (.mk v0 v1 v4 v5 v7 v8 v17 v16) S) v
def u33_3 : W8 → FV := fun v => W8.rec (motive := fun _ => FV) (fun v0 v1 v4 v5 v7 v8 v9 v16 => v9) v
def u33_4 (C : CU) : CdU W8 := fun v S κ => W8.rec (motive := fun _ => RU) (fun v0 v1 v4 v5 v7 v8 v9 v16 => 
 κ .normal (.mk v0 v1 v4 v8 v7 v8 v9 v16) S) v
def u33_5 (C : CU) : CdU W8 := fun v S κ => W8.rec (motive := fun _ => RU) (fun v0 v1 v4 v5 v7 v8 v9 v16 => 
 uIad 12 v0 v5 S fun v17 S =>
 uLd (some 12) v17 S fun v18 S =>
 uCallV C v1 [v18] S fun v19 S =>
 κ .normal (.mk v0 v1 v4 v5 v7 v8 v9 v19) S) v
def u33_6 : W8 → FV := fun v => W8.rec (motive := fun _ => FV) (fun v0 v1 v4 v5 v7 v8 v9 v16 => v16) v
def u33_7 (C : CU) : CdU W8 := fun v S κ => W8.rec (motive := fun _ => RU) (fun v0 v1 v4 v5 v7 v8 v9 v16 => 
 κ .normal (.mk v0 v1 v5 v5 v7 v8 v9 v16) S) v
def u33_8 (C : CU) : CdU W8 := fun v S κ => W8.rec (motive := fun _ => RU) (fun v0 v1 v4 v5 v7 v8 v9 v16 => 
 uAdd v8 (.n 1) S fun v17 S =>
 κ .normal (.mk v0 v1 v4 v5 v7 v17 v9 v16) S) v
def u33_9 (C : CU) (n : Nat) : CdU W8 := seqU (u33_2 C) (seqU (condU u33_3 (skipU) (exitU 0)) (seqU (blockU 1 (seqU (u33_4 C) (seqU (u33_5 C) (condU u33_6 (seqU (u33_7 C) (retU)) (skipU))))) (u33_8 C)))
def u33_10 (C : CU) : CdU W8 := fun v S κ => W8.rec (motive := fun _ => RU) (fun v0 v1 v4 v5 v7 v8 v9 v16 => 
 κ .normal (.mk v0 v1 (.i .i64 (-1)) v5 v7 v8 v9 v16) S) v
def u33r (v : W8) (S : FAW) : RU := W8.rec (motive := fun _ => RU) (fun v0 v1 v4 v5 v7 v8 v9 v16 => .ok v4 S) v
def u33 : Fu := fun C n args S => (seqU (u33_0 C) (seqU (seqU (u33_1 C) (blockU 0 (loopU n (u33_9 C n)))) (seqU (u33_10 C) (retU))) : CdU W8) (.mk (argU args 0) (argU args 1) (argU args 4) (argU args 5) (argU args 7) (argU args 8) (argU args 9) (argU args 16)) S fun o v S => exU o (u33r v S) (fun _ => .no) (u33r v S)
/-! assayer/alias.Key$1 -/
def u34_0 (C : CU) : CdU W4 := fun v S κ => W4.rec (motive := fun _ => RU) (fun v0 v1 v2 v3 => 
 uBox 60 12 v0 S fun v4 S =>
 κ .normal (.mk v0 v1 v4 (.t false)) S) v
def u34_1 (C : CU) : CdU W4 := fun v S κ => W4.rec (motive := fun _ => RU) (fun v0 v1 v2 v3 => 
 uFad 1 v2 S fun v4 S =>
 uLd none v4 S fun v5 S =>
 uLd none v1 S fun v6 S =>
 uEq false .eql v5 v6 S fun v7 S =>
 κ .normal (.mk v0 v1 v2 v7) S) v
def u34r (v : W4) (S : FAW) : RU := W4.rec (motive := fun _ => RU) (fun v0 v1 v2 v3 => .ok v3 S) v
def u34 : Fu := fun C n args S => (seqU (u34_0 C) (seqU (u34_1 C) (retU)) : CdU W4) (.mk (argU args 0) (argU args 1) (argU args 2) (argU args 3)) S fun o v S => exU o (u34r v S) (fun _ => .no) (u34r v S)
/-! assayer/assayerref5.letter -/
def u39_0 (C : CU) : CdU W2 := fun v S κ => W2.rec (motive := fun _ => RU) (fun v0 v2 => 
 κ .normal (.mk v0 (.t false)) S) v
def u39_1 (C : CU) : CdU W2 := fun v S κ => W2.rec (motive := fun _ => RU) (fun v0 v2 => 
 uCmp (fun a b => Nat.ble b a) .geq v0 (.b 97) S fun v3 S =>
 eT v3 fun b => cn b
 (uCmp Nat.ble .leq v0 (.b 122) S fun v4 S =>
 eT v4 fun b => cn b
 (κ .normal (.mk v0 (.t true)) S)
 (uCmp (fun a b => Nat.ble b a) .geq v0 (.b 65) S fun v5 S =>
 eT v5 fun b => cn b
 (uCmp Nat.ble .leq v0 (.b 90) S fun v6 S =>
 eT v6 fun b => cn b
 (κ .normal (.mk v0 (.t true)) S)
 (uEq false .eql v0 (.b 95) S fun v7 S =>
 κ .normal (.mk v0 v7) S))
 (uEq false .eql v0 (.b 95) S fun v6 S =>
 κ .normal (.mk v0 v6) S)))
 (uCmp (fun a b => Nat.ble b a) .geq v0 (.b 65) S fun v4 S =>
 eT v4 fun b => cn b
 (uCmp Nat.ble .leq v0 (.b 90) S fun v5 S =>
 eT v5 fun b => cn b
 (κ .normal (.mk v0 (.t true)) S)
 (uEq false .eql v0 (.b 95) S fun v6 S =>
 κ .normal (.mk v0 v6) S))
 (uEq false .eql v0 (.b 95) S fun v5 S =>
 κ .normal (.mk v0 v5) S))) v
def u39r (v : W2) (S : FAW) : RU := W2.rec (motive := fun _ => RU) (fun v0 v2 => .ok v2 S) v
def u39 : Fu := fun C n args S => (seqU (u39_0 C) (seqU (u39_1 C) (retU)) : CdU W2) (.mk (argU args 0) (argU args 2)) S fun o v S => exU o (u39r v S) (fun _ => .no) (u39r v S)
/-! assayer/assayerref5.Reserved -/
def u40_0 (C : CU) : CdU W6 := fun v S κ => W6.rec (motive := fun _ => RU) (fun v0 v2 v3 v4 v9 v17 => 
 κ .normal (.mk v0 (.t false) v3 v4 v9 v17) S) v
def u40_1 (C : CU) : CdU W6 := fun v S κ => W6.rec (motive := fun _ => RU) (fun v0 v2 v3 v4 v9 v17 => 
 uLitF 9 1 [(.s [])] 18 [(0, 1, (.s [105, 110, 99, 108, 117, 100, 101])), (1, 1, (.s [110, 97, 109, 101, 115, 112, 97, 99, 101])), (2, 1, (.s [116, 121, 112, 101, 100, 101, 102])), (3, 1, (.s [101, 110, 117, 109])), (4, 1, (.s [99, 111, 110, 115, 116])), (5, 1, (.s [115, 116, 114, 117, 99, 116])), (6, 1, (.s [117, 110, 105, 111, 110])), (7, 1, (.s [101, 120, 99, 101, 112, 116, 105, 111, 110])), (8, 1, (.s [115, 101, 114, 118, 105, 99, 101])), (9, 1, (.s [101, 120, 116, 101, 110, 100, 115])), (10, 1, (.s [116, 104, 114, 111, 119, 115])), (11, 1, (.s [111, 110, 101, 119, 97, 121])), (12, 1, (.s [118, 111, 105, 100])), (13, 1, (.s [114, 101, 113, 117, 105, 114, 101, 100])), (14, 1, (.s [111, 112, 116, 105, 111, 110, 97, 108])), (15, 1, (.s [116, 114, 117, 101])), (16, 1, (.s [102, 97, 108, 115, 101])), (17, 1, (.s [98, 121, 116, 101]))] S fun v18 S =>
 κ .normal (.mk v0 v2 v18 v4 v9 v17) S) v
def u40_2 (C : CU) : CdU W6 := fun v S κ => W6.rec (motive := fun _ => RU) (fun v0 v2 v3 v4 v9 v17 => 
 κ .normal (.mk v0 v2 v3 (.n 0) v9 v17) S) v
def u40_3 (C : CU) : CdU W6 := fun v S κ => W6.rec (motive := fun _ => RU) (fun v0 v2 v3 v4 v9 v17 => 
 uLen false v3 S fun v18 S =>
 uCmp ltN .lss v4 v18 S fun v19 S =>
 κ .normal (.mk v0 v2 v3 v4 v19 v17) S) v
def u40_4 : W6 → FV := fun v => W6.rec (motive := fun _ => FV) (fun v0 v2 v3 v4 v9 v17 => v9) v
def u40_5 (C : CU) : CdU W6 := fun v S κ => W6.rec (motive := fun _ => RU) (fun v0 v2 v3 v4 v9 v17 => 
 uIad 1 v3 v4 S fun v18 S =>
 uLd none v18 S fun v19 S =>
 uEq false .eql v19 v0 S fun v20 S =>
 κ .normal (.mk v0 v2 v3 v4 v9 v20) S) v
def u40_6 : W6 → FV := fun v => W6.rec (motive := fun _ => FV) (fun v0 v2 v3 v4 v9 v17 => v17) v
def u40_7 (C : CU) : CdU W6 := fun v S κ => W6.rec (motive := fun _ => RU) (fun v0 v2 v3 v4 v9 v17 => 
 κ .normal (.mk v0 (.t true) v3 v4 v9 v17) S) v
def u40_8 (C : CU) : CdU W6 := fun v S κ => W6.rec (motive := fun _ => RU) (fun v0 v2 v3 v4 v9 v17 => 
 uAdd v4 (.n 1) S fun v18 S =>
 κ .normal (.mk v0 v2 v3 v18 v9 v17) S) v
def u40_9 (C : CU) (n : Nat) : CdU W6 := seqU (seqU (u40_3 C) (condU u40_4 (skipU) (exitU 0))) (seqU (blockU 1 (seqU (u40_5 C) (condU u40_6 (seqU (u40_7 C) (retU)) (skipU)))) (u40_8 C))
def u40_10 (C : CU) : CdU W6 := fun v S κ => W6.rec (motive := fun _ => RU) (fun v0 v2 v3 v4 v9 v17 => 
 uCall C 61 [v0] S fun v18 S =>
 uEq true .neq v18 (.n 0) S fun v19 S =>
 κ .normal (.mk v0 v19 v3 v4 v9 v17) S) v
def u40r (v : W6) (S : FAW) : RU := W6.rec (motive := fun _ => RU) (fun v0 v2 v3 v4 v9 v17 => .ok v2 S) v
def u40 : Fu := fun C n args S => (seqU (u40_0 C) (seqU (u40_1 C) (seqU (seqU (u40_2 C) (blockU 0 (loopU n (u40_9 C n)))) (seqU (u40_10 C) (retU)))) : CdU W6) (.mk (argU args 0) (argU args 2) (argU args 3) (argU args 4) (argU args 9) (argU args 17)) S fun o v S => exU o (u40r v S) (fun _ => .no) (u40r v S)
/-! assayer/assayerref5.digit -/
def u41_0 (C : CU) : CdU W2 := fun v S κ => W2.rec (motive := fun _ => RU) (fun v0 v2 => 
 κ .normal (.mk v0 (.t false)) S) v
def u41_1 (C : CU) : CdU W2 := fun v S κ => W2.rec (motive := fun _ => RU) (fun v0 v2 => 
 uCmp (fun a b => Nat.ble b a) .geq v0 (.b 48) S fun v3 S =>
 eT v3 fun b => cn b
 (uCmp Nat.ble .leq v0 (.b 57) S fun v4 S =>
 κ .normal (.mk v0 v4) S)
 (κ .normal (.mk v0 (.t false)) S)) v
def u41r (v : W2) (S : FAW) : RU := W2.rec (motive := fun _ => RU) (fun v0 v2 => .ok v2 S) v
def u41 : Fu := fun C n args S => (seqU (u41_0 C) (seqU (u41_1 C) (retU)) : CdU W2) (.mk (argU args 0) (argU args 2)) S fun o v S => exU o (u41r v S) (fun _ => .no) (u41r v S)
/-! assayer/assayerref5.Parse -/
def u42_0 (C : CU) : CdU W16 := fun v S κ => W16.rec (motive := fun _ => RU) (fun v0 v2 v3 v4 v5 v6 v7 v8 v9 v10 v11 v19 v38 v46 v55 v68 => 
 uNewF 51 3 [.nl, .nl, .nl] S fun v69 S =>
 κ .normal (.mk v0 v69 (.n 0) (.n 0) v5 v6 v7 v8 v9 v10 v11 v19 v38 v46 v55 v68) S) v
def u42_1 (C : CU) : CdU W16 := fun v S κ => W16.rec (motive := fun _ => RU) (fun v0 v2 v3 v4 v5 v6 v7 v8 v9 v10 v11 v19 v38 v46 v55 v68 => 
 uCall C 62 [v0] S fun v69 S =>
 uExt 0 v69 S fun v70 S =>
 uExt 1 v69 S fun v71 S =>
 uExt 2 v69 S fun v72 S =>
 κ .normal (.mk v0 v2 v3 v4 v70 v71 v72 v8 v9 v10 v11 v19 v38 v46 v55 v68) S) v
def u42_2 (C : CU) : CdU W16 := fun v S κ => W16.rec (motive := fun _ => RU) (fun v0 v2 v3 v4 v5 v6 v7 v8 v9 v10 v11 v19 v38 v46 v55 v68 => 
 uEq true .neq v6 (.n 0) S fun v69 S =>
 κ .normal (.mk v0 v2 v3 v4 v5 v6 v7 v8 v9 v10 v11 v69 v38 v46 v55 v68) S) v
def u42_3 : W16 → FV := fun v => W16.rec (motive := fun _ => FV) (fun v0 v2 v3 v4 v5 v6 v7 v8 v9 v10 v11 v19 v38 v46 v55 v68 => v19) v
def u42_4 (C : CU) : CdU W16 := fun v S κ => W16.rec (motive := fun _ => RU) (fun v0 v2 v3 v4 v5 v6 v7 v8 v9 v10 v11 v19 v38 v46 v55 v68 => 
 uBuildF [.nl, .nl, .nl] [] S fun v69 S =>
 uSt 3 v2 v69 S fun v70 S =>
 κ .normal (.mk v0 v2 v6 v7 v5 v6 v7 v8 v9 v10 v11 v19 v38 v46 v55 v68) S) v
def u42_5 (C : CU) : CdU W16 := fun v S κ => W16.rec (motive := fun _ => RU) (fun v0 v2 v3 v4 v5 v6 v7 v8 v9 v10 v11 v19 v38 v46 v55 v68 => 
 uBuildF [.nl, (.n 0), (.n 0), (.n 0)] [(0, 1, v5)] S fun v69 S =>
 uBox 133 4 v69 S fun v70 S =>
 κ .normal (.mk v0 v2 v3 v4 v5 v6 v7 v70 v9 v10 v11 v19 v38 v46 v55 v68) S) v
def u42_6 (C : CU) : CdU W16 := fun v S κ => W16.rec (motive := fun _ => RU) (fun v0 v2 v3 v4 v5 v6 v7 v8 v9 v10 v11 v19 v38 v46 v55 v68 => 
 uNewF 51 3 [.nl, .nl, .nl] S fun v69 S =>
 κ .normal (.mk v0 v2 v3 v4 v5 v6 v7 v8 v69 v10 v11 v19 v38 v46 v55 v68) S) v
def u42_7 (C : CU) : CdU W16 := fun v S κ => W16.rec (motive := fun _ => RU) (fun v0 v2 v3 v4 v5 v6 v7 v8 v9 v10 v11 v19 v38 v46 v55 v68 => 
 uCall C 63 [v8, v9] S fun v69 S =>
 κ .normal (.mk v0 v2 v3 v4 v5 v6 v7 v8 v9 v10 v11 v19 v38 v46 v55 v68) S) v
def u42_8 (C : CU) : CdU W16 := fun v S κ => W16.rec (motive := fun _ => RU) (fun v0 v2 v3 v4 v5 v6 v7 v8 v9 v10 v11 v19 v38 v46 v55 v68 => 
 uGet 2 v8 S fun v71 S =>
 uEq false .eql v71 (.n 0) S fun v72 S =>
 eT v72 fun b => cn b
 (uCall C 64 [v8] S fun v73 S =>
 uFld none 0 v73 S fun v74 S =>
 uEq true .neq v74 (.n 6) S fun v75 S =>
 κ .normal (.mk v0 v2 v3 v4 v5 v6 v7 v8 v9 v10 v11 v19 v75 v46 v55 v68) S)
 (κ .normal (.mk v0 v2 v3 v4 v5 v6 v7 v8 v9 v10 v11 v19 (.t false) v46 v55 v68) S)) v
def u42_9 : W16 → FV := fun v => W16.rec (motive := fun _ => FV) (fun v0 v2 v3 v4 v5 v6 v7 v8 v9 v10 v11 v19 v38 v46 v55 v68 => v38) v
def u42_10 (C : CU) : CdU W16 := fun v S κ => W16.rec (motive := fun _ => RU) (fun v0 v2 v3 v4 v5 v6 v7 v8 v9 v10 v11 v19 v38 v46 v55 v68 => 
 uFad 2 v9 S fun v69 S =>
 uLd none v69 S fun v70 S =>
 uLen false v70 S fun v71 S =>
 uEq false .eql v71 (.n 30) S fun v72 S =>
 eT v72 fun b => cn b
 (uCall C 65 [v8] S fun v73 S =>
 κ .normal (.mk v0 v2 v3 v4 v5 v6 v7 v8 v9 v10 v11 v19 v38 v73 v55 v68) S)
 (κ .normal (.mk v0 v2 v3 v4 v5 v6 v7 v8 v9 v10 v11 v19 v38 (.t false) v55 v68) S)) v
def u42_11 : W16 → FV := fun v => W16.rec (motive := fun _ => FV) (fun v0 v2 v3 v4 v5 v6 v7 v8 v9 v10 v11 v19 v38 v46 v55 v68 => v46) v
def u42_12 (C : CU) : CdU W16 := fun v S κ => W16.rec (motive := fun _ => RU) (fun v0 v2 v3 v4 v5 v6 v7 v8 v9 v10 v11 v19 v38 v46 v55 v68 => 
 uCall C 66 [v8, (.n 4)] S fun v69 S =>
 κ .normal (.mk v0 v2 v3 v4 v5 v6 v7 v8 v9 v10 v11 v19 v38 v46 v55 v68) S) v
def u42_13 (C : CU) : CdU W16 := fun v S κ => W16.rec (motive := fun _ => RU) (fun v0 v2 v3 v4 v5 v6 v7 v8 v9 v10 v11 v19 v38 v46 v55 v68 => 
 uCall C 67 [v8] S fun v69 S =>
 uExt 0 v69 S fun v70 S =>
 uExt 1 v69 S fun v71 S =>
 uNewF 60 12 [(.n 0), (.s []), (.s []), (.n 0), (.n 0), (.i .u64 0), (.s []), .nl, .nl, .nl, (.s []), .nl] S fun v72 S =>
 uSt 12 v72 v70 S fun v73 S =>
 κ .normal (.mk v0 v2 v3 v4 v5 v6 v7 v8 v9 v72 v71 v19 v38 v46 v55 v68) S) v
def u42_14 (C : CU) : CdU W16 := fun v S κ => W16.rec (motive := fun _ => RU) (fun v0 v2 v3 v4 v5 v6 v7 v8 v9 v10 v11 v19 v38 v46 v55 v68 => 
 uNot v11 S fun v69 S =>
 κ .normal (.mk v0 v2 v3 v4 v5 v6 v7 v8 v9 v10 v11 v19 v38 v46 v69 v68) S) v
def u42_15 : W16 → FV := fun v => W16.rec (motive := fun _ => FV) (fun v0 v2 v3 v4 v5 v6 v7 v8 v9 v10 v11 v19 v38 v46 v55 v68 => v55) v
def u42_16 (C : CU) : CdU W16 := fun v S κ => W16.rec (motive := fun _ => RU) (fun v0 v2 v3 v4 v5 v6 v7 v8 v9 v10 v11 v19 v38 v46 v55 v68 => 
 uCall C 66 [v8, (.n 2)] S fun v69 S =>
 κ .normal (.mk v0 v2 v3 v4 v5 v6 v7 v8 v9 v10 v11 v19 v38 v46 v55 v68) S) v
def u42_17 (C : CU) : CdU W16 := fun v S κ => W16.rec (motive := fun _ => RU) (fun v0 v2 v3 v4 v5 v6 v7 v8 v9 v10 v11 v19 v38 v46 v55 v68 => 
 uFad 2 v9 S fun v69 S =>
 uLd none v69 S fun v70 S =>
 uLd (some 12) v10 S fun v71 S =>
 uLitF 60 12 [(.n 0), (.s []), (.s []), (.n 0), (.n 0), (.i .u64 0), (.s []), .nl, .nl, .nl, (.s []), .nl] 1 [(0, 12, v71)] S fun v72 S =>
 uApp 60 12 192 v70 v72 S fun v73 S =>
 uFad 2 v9 S fun v74 S =>
 uSt 1 v74 v73 S fun v75 S =>
 κ .normal (.mk v0 v2 v3 v4 v5 v6 v7 v8 v9 v10 v11 v19 v38 v46 v55 v68) S) v
def u42_18 (C : CU) (n : Nat) : CdU W16 := seqU (seqU (u42_8 C) (condU u42_9 (skipU) (exitU 0))) (blockU 1 (seqU (seqU (u42_10 C) (condU u42_11 (seqU (u42_12 C) (exitU 0)) (skipU))) (seqU (u42_13 C) (seqU (seqU (u42_14 C) (condU u42_15 (u42_16 C) (skipU))) (u42_17 C)))))
def u42_19 (C : CU) : CdU W16 := fun v S κ => W16.rec (motive := fun _ => RU) (fun v0 v2 v3 v4 v5 v6 v7 v8 v9 v10 v11 v19 v38 v46 v55 v68 => 
 uGet 2 v8 S fun v71 S =>
 uEq true .neq v71 (.n 0) S fun v72 S =>
 κ .normal (.mk v0 v2 v3 v4 v5 v6 v7 v8 v9 v10 v11 v19 v38 v46 v55 v72) S) v
def u42_20 : W16 → FV := fun v => W16.rec (motive := fun _ => FV) (fun v0 v2 v3 v4 v5 v6 v7 v8 v9 v10 v11 v19 v38 v46 v55 v68 => v68) v
def u42_21 (C : CU) : CdU W16 := fun v S κ => W16.rec (motive := fun _ => RU) (fun v0 v2 v3 v4 v5 v6 v7 v8 v9 v10 v11 v19 v38 v46 v55 v68 => 
 uBuildF [.nl, .nl, .nl] [] S fun v69 S =>
 uNilc v8 S fun v70 S =>
 uFad 2 v70 S fun v71 S =>
 uLd none v71 S fun v72 S =>
 uNilc v8 S fun v73 S =>
 uFad 3 v73 S fun v74 S =>
 uLd none v74 S fun v75 S =>
 uSt 3 v2 v69 S fun v76 S =>
 uLd none v74 S fun u _ => veqU u v75
 (uLd none v71 S fun u _ => veqU u v72
 (κ .normal (.mk v0 v2 v72 v75 v5 v6 v7 v8 v9 v10 v11 v19 v38 v46 v55 v68) S))) v
def u42_22 (C : CU) : CdU W16 := fun v S κ => W16.rec (motive := fun _ => RU) (fun v0 v2 v3 v4 v5 v6 v7 v8 v9 v10 v11 v19 v38 v46 v55 v68 => 
 uLd (some 3) v9 S fun v69 S =>
 uSt 3 v2 v69 S fun v70 S =>
 κ .normal (.mk v0 v2 (.n 0) (.n 0) v5 v6 v7 v8 v9 v10 v11 v19 v38 v46 v55 v68) S) v
def u42r (v : W16) (S : FAW) : RU := W16.rec (motive := fun _ => RU) (fun v0 v2 v3 v4 v5 v6 v7 v8 v9 v10 v11 v19 v38 v46 v55 v68 => uLd (some 3) v2 S fun r2 _ => .ok (.u [r2, v3, v4]) S) v
def u42 : Fu := fun C n args S => (seqU (u42_0 C) (seqU (u42_1 C) (seqU (seqU (u42_2 C) (condU u42_3 (seqU (u42_4 C) (retU)) (skipU))) (seqU (u42_5 C) (seqU (u42_6 C) (seqU (u42_7 C) (seqU (blockU 0 (loopU n (u42_18 C n))) (seqU (seqU (u42_19 C) (condU u42_20 (seqU (u42_21 C) (retU)) (skipU))) (seqU (u42_22 C) (retU))))))))) : CdU W16) (.mk (argU args 0) (argU args 2) (argU args 3) (argU args 4) (argU args 5) (argU args 6) (argU args 7) (argU args 8) (argU args 9) (argU args 10) (argU args 11) (argU args 19) (argU args 38) (argU args 46) (argU args 55) (argU args 68)) S fun o v S => exU o (u42r v S) (fun _ => .no) (u42r v S)
/-! (*assayer/assayerref9.loader).fail -/
def u43_0 (C : CU) : CdU W5 := fun v S κ => W5.rec (motive := fun _ => RU) (fun v0 v1 v2 v3 v12 => 
 uGet 5 v0 S fun v15 S =>
 uEq false .eql v15 (.n 0) S fun v16 S =>
 κ .normal (.mk v0 v1 v2 v3 v16) S) v
def u43_1 : W5 → FV := fun v => W5.rec (motive := fun _ => FV) (fun v0 v1 v2 v3 v12 => v12) v
def u43_2 (C : CU) : CdU W5 := fun v S κ => W5.rec (motive := fun _ => RU) (fun v0 v1 v2 v3 v12 => 
 uNilc v0 S fun v13 S =>
 uFad 5 v13 S fun v14 S =>
 uSt 1 v14 v1 S fun v15 S =>
 uNilc v0 S fun v16 S =>
 uFad 6 v16 S fun v17 S =>
 uSt 1 v17 v2 S fun v18 S =>
 uNilc v0 S fun v19 S =>
 uFad 7 v19 S fun v20 S =>
 uSt 1 v20 v3 S fun v21 S =>
 κ .normal (.mk v0 v1 v2 v3 v12) S) v
def u43r (v : W5) (S : FAW) : RU := W5.rec (motive := fun _ => RU) (fun v0 v1 v2 v3 v12 => .ok (.u []) S) v
def u43 : Fu := fun C n args S => (seqU (u43_0 C) (condU u43_1 (u43_2 C) (skipU)) : CdU W5) (.mk (argU args 0) (argU args 1) (argU args 2) (argU args 3) (argU args 12)) S fun o v S => exU o (u43r v S) (fun _ => .no) (u43r v S)
/-! assayer/assayerref9.has -/
def u44_0 (C : CU) : CdU W6 := fun v S κ => W6.rec (motive := fun _ => RU) (fun v0 v1 v4 v5 v9 v17 => 
 κ .normal (.mk v0 v1 (.t false) v5 v9 v17) S) v
def u44_1 (C : CU) : CdU W6 := fun v S κ => W6.rec (motive := fun _ => RU) (fun v0 v1 v4 v5 v9 v17 => 
 κ .normal (.mk v0 v1 v4 (.n 0) v9 v17) S) v
def u44_2 (C : CU) : CdU W6 := fun v S κ => W6.rec (motive := fun _ => RU) (fun v0 v1 v4 v5 v9 v17 => 
 uLen false v0 S fun v18 S =>
 uCmp ltN .lss v5 v18 S fun v19 S =>
 κ .normal (.mk v0 v1 v4 v5 v19 v17) S) v
def u44_3 : W6 → FV := fun v => W6.rec (motive := fun _ => FV) (fun v0 v1 v4 v5 v9 v17 => v9) v
def u44_4 (C : CU) : CdU W6 := fun v S κ => W6.rec (motive := fun _ => RU) (fun v0 v1 v4 v5 v9 v17 => 
 uIad 1 v0 v5 S fun v18 S =>
 uLd none v18 S fun v19 S =>
 uEq false .eql v19 v1 S fun v20 S =>
 κ .normal (.mk v0 v1 v4 v5 v9 v20) S) v
def u44_5 : W6 → FV := fun v => W6.rec (motive := fun _ => FV) (fun v0 v1 v4 v5 v9 v17 => v17) v
def u44_6 (C : CU) : CdU W6 := fun v S κ => W6.rec (motive := fun _ => RU) (fun v0 v1 v4 v5 v9 v17 => 
 κ .normal (.mk v0 v1 (.t true) v5 v9 v17) S) v
def u44_7 (C : CU) : CdU W6 := fun v S κ => W6.rec (motive := fun _ => RU) (fun v0 v1 v4 v5 v9 v17 => 
 uAdd v5 (.n 1) S fun v18 S =>
 κ .normal (.mk v0 v1 v4 v18 v9 v17) S) v
def u44_8 (C : CU) (n : Nat) : CdU W6 := seqU (seqU (u44_2 C) (condU u44_3 (skipU) (exitU 0))) (seqU (blockU 1 (seqU (u44_4 C) (condU u44_5 (seqU (u44_6 C) (retU)) (skipU)))) (u44_7 C))
def u44_9 (C : CU) : CdU W6 := fun v S κ => W6.rec (motive := fun _ => RU) (fun v0 v1 v4 v5 v9 v17 => 
 κ .normal (.mk v0 v1 (.t false) v5 v9 v17) S) v
def u44r (v : W6) (S : FAW) : RU := W6.rec (motive := fun _ => RU) (fun v0 v1 v4 v5 v9 v17 => .ok v4 S) v
def u44 : Fu := fun C n args S => (seqU (u44_0 C) (seqU (seqU (u44_1 C) (blockU 0 (loopU n (u44_8 C n)))) (seqU (u44_9 C) (retU))) : CdU W6) (.mk (argU args 0) (argU args 1) (argU args 4) (argU args 5) (argU args 9) (argU args 17)) S fun o v S => exU o (u44r v S) (fun _ => .no) (u44r v S)
/-! assayer/kind.read -/
def u49_0 (C : CU) : CdU W4 := fun v S κ => W4.rec (motive := fun _ => RU) (fun v0 v2 v3 v4 => 
 κ .normal (.mk v0 .np (.n 0) .nl) S) v
def u49_1 (C : CU) : CdU W4 := fun v S κ => W4.rec (motive := fun _ => RU) (fun v0 v2 v3 v4 => 
 uBuildF [(.s []), (.n 0), (.n 0), .nl, (.n 0)] [(0, 1, v0)] S fun v5 S =>
 uBox 117 5 v5 S fun v6 S =>
 κ .normal (.mk v0 v6 v3 v4) S) v
def u49_2 (C : CU) : CdU W4 := fun v S κ => W4.rec (motive := fun _ => RU) (fun v0 v2 v3 v4 => 
 uCall C 72 [v2, (.n 0)] S fun v5 S =>
 uExt 0 v5 S fun v6 S =>
 uExt 1 v5 S fun v7 S =>
 κ .normal (.mk v0 v2 v6 v7) S) v
def u49_3 (C : CU) : CdU W4 := fun v S κ => W4.rec (motive := fun _ => RU) (fun v0 v2 v3 v4 => 
 uGet 1 v2 S fun v7 S =>
 uLen true v0 S fun v8 S =>
 uCmp ltN .lss v7 v8 S fun v9 S =>
 uCall C 73 [v2, v9, (.n 2)] S fun v10 S =>
 κ .normal (.mk v0 v2 v3 v4) S) v
def u49_4 (C : CU) : CdU W4 := fun v S κ => W4.rec (motive := fun _ => RU) (fun v0 v2 v3 v4 => 
 κ .normal (.mk v0 v2 v3 v4) S) v
def u49r (v : W4) (S : FAW) : RU := W4.rec (motive := fun _ => RU) (fun v0 v2 v3 v4 => .ok (.u [v2, v3, v4]) S) v
def u49 : Fu := fun C n args S => (seqU (u49_0 C) (seqU (u49_1 C) (seqU (u49_2 C) (seqU (u49_3 C) (seqU (u49_4 C) (retU))))) : CdU W4) (.mk (argU args 0) (argU args 2) (argU args 3) (argU args 4)) S fun o v S => exU o (u49r v S) (fun _ => .no) (u49r v S)
/-! (*assayer/alias.walker).named -/
def u50_0 (C : CU) : CdU W18 := fun v S κ => W18.rec (motive := fun _ => RU) (fun v0 v1 v2 v6 v7 v8 v9 v10 v11 v12 v13 v14 v36 v38 v39 v42 v47 v65 => 
 κ .normal (.mk v0 v1 v2 (.s []) (.n 0) v8 v9 v10 v11 v12 v13 v14 v36 v38 v39 v42 v47 v65) S) v
def u50_1 (C : CU) : CdU W18 := fun v S κ => W18.rec (motive := fun _ => RU) (fun v0 v1 v2 v6 v7 v8 v9 v10 v11 v12 v13 v14 v36 v38 v39 v42 v47 v65 => 
 uNilc v0 S fun v66 S =>
 uFad 0 v66 S fun v67 S =>
 uLd (some 2) v67 S fun v68 S =>
 uCall C 74 [v68, v1, v2] S fun v69 S =>
 uExt 0 v69 S fun v70 S =>
 uExt 1 v69 S fun v71 S =>
 uExt 2 v69 S fun v72 S =>
 uExt 3 v69 S fun v73 S =>
 uNewF 60 12 [(.n 0), (.s []), (.s []), (.n 0), (.n 0), (.i .u64 0), (.s []), .nl, .nl, .nl, (.s []), .nl] S fun v74 S =>
 uSt 12 v74 v71 S fun v75 S =>
 κ .normal (.mk v0 v1 v2 v6 v7 v70 v74 v72 v73 v12 v13 v14 v36 v38 v39 v42 v47 v65) S) v
def u50_2 (C : CU) : CdU W18 := fun v S κ => W18.rec (motive := fun _ => RU) (fun v0 v1 v2 v6 v7 v8 v9 v10 v11 v12 v13 v14 v36 v38 v39 v42 v47 v65 => 
 uEq true .neq v11 (.n 0) S fun v66 S =>
 uCall C 25 [v0, v66, v11] S fun v67 S =>
 κ .normal (.mk v0 v1 v2 v6 v7 v8 v9 v10 v11 v12 v13 v14 v36 v38 v39 v42 v47 v65) S) v
def u50_3 (C : CU) : CdU W18 := fun v S κ => W18.rec (motive := fun _ => RU) (fun v0 v1 v2 v6 v7 v8 v9 v10 v11 v12 v13 v14 v36 v38 v39 v42 v47 v65 => 
 uGet 3 v0 S fun v68 S =>
 uEq true .neq v68 (.n 0) S fun v69 S =>
 κ .normal (.mk v0 v1 v2 v6 v7 v8 v9 v10 v11 v12 v13 v14 v69 v38 v39 v42 v47 v65) S) v
def u50_4 : W18 → FV := fun v => W18.rec (motive := fun _ => FV) (fun v0 v1 v2 v6 v7 v8 v9 v10 v11 v12 v13 v14 v36 v38 v39 v42 v47 v65 => v36) v
def u50_5 (C : CU) : CdU W18 := fun v S κ => W18.rec (motive := fun _ => RU) (fun v0 v1 v2 v6 v7 v8 v9 v10 v11 v12 v13 v14 v36 v38 v39 v42 v47 v65 => 
 κ .normal (.mk v0 v1 v2 (.s []) (.n 0) v8 v9 v10 v11 v12 v13 v14 v36 v38 v39 v42 v47 v65) S) v
def u50_6 (C : CU) : CdU W18 := fun v S κ => W18.rec (motive := fun _ => RU) (fun v0 v1 v2 v6 v7 v8 v9 v10 v11 v12 v13 v14 v36 v38 v39 v42 v47 v65 => 
 uFad 0 v9 S fun v66 S =>
 uLd none v66 S fun v67 S =>
 κ .normal (.mk v0 v1 v2 v6 v7 v8 v9 v10 v11 v12 v13 v14 v36 v67 v39 v42 v47 v65) S) v
def u50_7 (C : CU) : CdU W18 := fun v S κ => W18.rec (motive := fun _ => RU) (fun v0 v1 v2 v6 v7 v8 v9 v10 v11 v12 v13 v14 v36 v38 v39 v42 v47 v65 => 
 uEq false .eql v38 (.n 2) S fun v66 S =>
 κ .normal (.mk v0 v1 v2 v6 v7 v8 v9 v10 v11 v12 v13 v14 v36 v38 v66 v42 v47 v65) S) v
def u50_8 : W18 → FV := fun v => W18.rec (motive := fun _ => FV) (fun v0 v1 v2 v6 v7 v8 v9 v10 v11 v12 v13 v14 v36 v38 v39 v42 v47 v65 => v39) v
def u50_9 (C : CU) : CdU W18 := fun v S κ => W18.rec (motive := fun _ => RU) (fun v0 v1 v2 v6 v7 v8 v9 v10 v11 v12 v13 v14 v36 v38 v39 v42 v47 v65 => 
 κ .normal (.mk v0 v1 v2 v8 (.n 17) v8 v9 v10 v11 v12 v13 v14 v36 v38 v39 v42 v47 v65) S) v
def u50_10 (C : CU) : CdU W18 := fun v S κ => W18.rec (motive := fun _ => RU) (fun v0 v1 v2 v6 v7 v8 v9 v10 v11 v12 v13 v14 v36 v38 v39 v42 v47 v65 => 
 uEq false .eql v38 (.n 4) S fun v66 S =>
 κ .normal (.mk v0 v1 v2 v6 v7 v8 v9 v10 v11 v12 v13 v14 v36 v38 v39 v66 v47 v65) S) v
def u50_11 : W18 → FV := fun v => W18.rec (motive := fun _ => FV) (fun v0 v1 v2 v6 v7 v8 v9 v10 v11 v12 v13 v14 v36 v38 v39 v42 v47 v65 => v42) v
def u50_12 (C : CU) : CdU W18 := fun v S κ => W18.rec (motive := fun _ => RU) (fun v0 v1 v2 v6 v7 v8 v9 v10 v11 v12 v13 v14 v36 v38 v39 v42 v47 v65 => 
 uEq false .eql v38 (.n 5) S fun v66 S =>
 κ .normal (.mk v0 v1 v2 v6 v7 v8 v9 v10 v11 v12 v13 v14 v36 v38 v39 v66 v47 v65) S) v
def u50_13 : W18 → FV := fun v => W18.rec (motive := fun _ => FV) (fun v0 v1 v2 v6 v7 v8 v9 v10 v11 v12 v13 v14 v36 v38 v39 v42 v47 v65 => v42) v
def u50_14 (C : CU) : CdU W18 := fun v S κ => W18.rec (motive := fun _ => RU) (fun v0 v1 v2 v6 v7 v8 v9 v10 v11 v12 v13 v14 v36 v38 v39 v42 v47 v65 => 
 uEq false .eql v38 (.n 6) S fun v66 S =>
 κ .normal (.mk v0 v1 v2 v6 v7 v8 v9 v10 v11 v12 v13 v14 v36 v38 v39 v66 v47 v65) S) v
def u50_15 : W18 → FV := fun v => W18.rec (motive := fun _ => FV) (fun v0 v1 v2 v6 v7 v8 v9 v10 v11 v12 v13 v14 v36 v38 v39 v42 v47 v65 => v42) v
def u50_16 (C : CU) : CdU W18 := fun v S κ => W18.rec (motive := fun _ => RU) (fun v0 v1 v2 v6 v7 v8 v9 v10 v11 v12 v13 v14 v36 v38 v39 v42 v47 v65 => 
 κ .normal (.mk v0 v1 v2 v8 (.n 12) v8 v9 v10 v11 v12 v13 v14 v36 v38 v39 v42 v47 v65) S) v
def u50_17 (C : CU) : CdU W18 := fun v S κ => W18.rec (motive := fun _ => RU) (fun v0 v1 v2 v6 v7 v8 v9 v10 v11 v12 v13 v14 v36 v38 v39 v42 v47 v65 => 
 uEq false .eql v38 (.n 1) S fun v66 S =>
 κ .normal (.mk v0 v1 v2 v6 v7 v8 v9 v10 v11 v12 v13 v14 v36 v38 v39 v42 v66 v65) S) v
def u50_18 : W18 → FV := fun v => W18.rec (motive := fun _ => FV) (fun v0 v1 v2 v6 v7 v8 v9 v10 v11 v12 v13 v14 v36 v38 v39 v42 v47 v65 => v47) v
def u50_19 (C : CU) : CdU W18 := fun v S κ => W18.rec (motive := fun _ => RU) (fun v0 v1 v2 v6 v7 v8 v9 v10 v11 v12 v13 v14 v36 v38 v39 v42 v47 v65 => 
 uFad 1 v9 S fun v66 S =>
 uLd none v66 S fun v67 S =>
 uBuildF [(.s []), (.s [])] [(0, 1, v10), (1, 1, v67)] S fun v68 S =>
 uNewF 154 2 [(.s []), (.s [])] S fun v69 S =>
 uSt 2 v69 v68 S fun v70 S =>
 κ .normal (.mk v0 v1 v2 v6 v7 v8 v9 v10 v11 v69 v13 v14 v36 v38 v39 v42 v47 v65) S) v
def u50_20 (C : CU) : CdU W18 := fun v S κ => W18.rec (motive := fun _ => RU) (fun v0 v1 v2 v6 v7 v8 v9 v10 v11 v12 v13 v14 v36 v38 v39 v42 v47 v65 => 
 uGet 2 v0 S fun v68 S =>
 uLd (some 2) v12 S fun v69 S =>
 uMlkF (.agg [.str, .str]) (.t false) false v68 v69 S fun v70 S =>
 uCall C 25 [v0, v70, (.n 9)] S fun v71 S =>
 κ .normal (.mk v0 v1 v2 v6 v7 v8 v9 v10 v11 v12 v13 v14 v36 v38 v39 v42 v47 v65) S) v
def u50_21 (C : CU) : CdU W18 := fun v S κ => W18.rec (motive := fun _ => RU) (fun v0 v1 v2 v6 v7 v8 v9 v10 v11 v12 v13 v14 v36 v38 v39 v42 v47 v65 => 
 uGet 3 v0 S fun v68 S =>
 uEq true .neq v68 (.n 0) S fun v69 S =>
 κ .normal (.mk v0 v1 v2 v6 v7 v8 v9 v10 v11 v12 v13 v14 v36 v38 v39 v42 v47 v69) S) v
def u50_22 : W18 → FV := fun v => W18.rec (motive := fun _ => FV) (fun v0 v1 v2 v6 v7 v8 v9 v10 v11 v12 v13 v14 v36 v38 v39 v42 v47 v65 => v65) v
def u50_23 (C : CU) : CdU W18 := fun v S κ => W18.rec (motive := fun _ => RU) (fun v0 v1 v2 v6 v7 v8 v9 v10 v11 v12 v13 v14 v36 v38 v39 v42 v47 v65 => 
 κ .normal (.mk v0 v1 v2 (.s []) (.n 0) v8 v9 v10 v11 v12 v13 v14 v36 v38 v39 v42 v47 v65) S) v
def u50_24 (C : CU) : CdU W18 := fun v S κ => W18.rec (motive := fun _ => RU) (fun v0 v1 v2 v6 v7 v8 v9 v10 v11 v12 v13 v14 v36 v38 v39 v42 v47 v65 => 
 uGet 2 v0 S fun v68 S =>
 uLd (some 2) v12 S fun v69 S =>
 uMup (.agg [.str, .str]) v68 v69 (.t true) S fun v70 S =>
 κ .normal (.mk v0 v1 v2 v6 v7 v8 v9 v10 v11 v12 v13 v14 v36 v38 v39 v42 v47 v65) S) v
def u50_25 (C : CU) : CdU W18 := fun v S κ => W18.rec (motive := fun _ => RU) (fun v0 v1 v2 v6 v7 v8 v9 v10 v11 v12 v13 v14 v36 v38 v39 v42 v47 v65 => 
 uFad 2 v9 S fun v66 S =>
 uLd none v66 S fun v67 S =>
 uCall C 24 [v0, v10, v67] S fun v68 S =>
 uExt 0 v68 S fun v69 S =>
 uExt 1 v68 S fun v70 S =>
 κ .normal (.mk v0 v1 v2 v6 v7 v8 v9 v10 v11 v12 v69 v70 v36 v38 v39 v42 v47 v65) S) v
def u50_26 (C : CU) : CdU W18 := fun v S κ => W18.rec (motive := fun _ => RU) (fun v0 v1 v2 v6 v7 v8 v9 v10 v11 v12 v13 v14 v36 v38 v39 v42 v47 v65 => 
 uGet 2 v0 S fun v68 S =>
 uLd (some 2) v12 S fun v69 S =>
 uMup (.agg [.str, .str]) v68 v69 (.t false) S fun v70 S =>
 κ .normal (.mk v0 v1 v2 v6 v7 v8 v9 v10 v11 v12 v13 v14 v36 v38 v39 v42 v47 v65) S) v
def u50_27 (C : CU) : CdU W18 := fun v S κ => W18.rec (motive := fun _ => RU) (fun v0 v1 v2 v6 v7 v8 v9 v10 v11 v12 v13 v14 v36 v38 v39 v42 v47 v65 => 
 κ .normal (.mk v0 v1 v2 v13 v14 v8 v9 v10 v11 v12 v13 v14 v36 v38 v39 v42 v47 v65) S) v
def u50_28 (C : CU) : CdU W18 := fun v S κ => W18.rec (motive := fun _ => RU) (fun v0 v1 v2 v6 v7 v8 v9 v10 v11 v12 v13 v14 v36 v38 v39 v42 v47 v65 => 
 uCall C 25 [v0, (.t true), (.n 10)] S fun v66 S =>
 κ .normal (.mk v0 v1 v2 v6 v7 v8 v9 v10 v11 v12 v13 v14 v36 v38 v39 v42 v47 v65) S) v
def u50_29 (C : CU) : CdU W18 := fun v S κ => W18.rec (motive := fun _ => RU) (fun v0 v1 v2 v6 v7 v8 v9 v10 v11 v12 v13 v14 v36 v38 v39 v42 v47 v65 => 
 κ .normal (.mk v0 v1 v2 (.s []) (.n 0) v8 v9 v10 v11 v12 v13 v14 v36 v38 v39 v42 v47 v65) S) v
def u50r (v : W18) (S : FAW) : RU := W18.rec (motive := fun _ => RU) (fun v0 v1 v2 v6 v7 v8 v9 v10 v11 v12 v13 v14 v36 v38 v39 v42 v47 v65 => .ok (.u [v6, v7]) S) v
def u50 : Fu := fun C n args S => (seqU (u50_0 C) (seqU (u50_1 C) (seqU (u50_2 C) (seqU (seqU (u50_3 C) (condU u50_4 (seqU (u50_5 C) (retU)) (skipU))) (seqU (seqU (u50_6 C) (blockU 0 (seqU (u50_7 C) (condU u50_8 (seqU (u50_9 C) (retU)) (seqU (seqU (u50_10 C) (condU u50_11 (skipU) (seqU (u50_12 C) (condU u50_13 (skipU) (u50_14 C))))) (condU u50_15 (seqU (u50_16 C) (retU)) (seqU (u50_17 C) (condU u50_18 (seqU (u50_19 C) (seqU (u50_20 C) (seqU (seqU (u50_21 C) (condU u50_22 (seqU (u50_23 C) (retU)) (skipU))) (seqU (u50_24 C) (seqU (u50_25 C) (seqU (u50_26 C) (seqU (u50_27 C) (retU)))))))) (skipU))))))))) (seqU (u50_28 C) (seqU (u50_29 C) (retU))))))) : CdU W18) (.mk (argU args 0) (argU args 1) (argU args 2) (argU args 6) (argU args 7) (argU args 8) (argU args 9) (argU args 10) (argU args 11) (argU args 12) (argU args 13) (argU args 14) (argU args 36) (argU args 38) (argU args 39) (argU args 42) (argU args 47) (argU args 65)) S fun o v S => exU o (u50r v S) (fun _ => .no) (u50r v S)
/-! (*assayer/alias.walker).key -/
def u51_0 (C : CU) : CdU W6 := fun v S κ => W6.rec (motive := fun _ => RU) (fun v0 v1 v2 v6 v7 v8 => 
 κ .normal (.mk v0 v1 v2 (.s []) v7 v8) S) v
def u51_1 (C : CU) : CdU W6 := fun v S κ => W6.rec (motive := fun _ => RU) (fun v0 v1 v2 v6 v7 v8 => 
 uCall C 24 [v0, v1, v2] S fun v9 S =>
 uExt 0 v9 S fun v10 S =>
 uExt 1 v9 S fun v11 S =>
 κ .normal (.mk v0 v1 v2 v6 v10 v11) S) v
def u51_2 (C : CU) : CdU W6 := fun v S κ => W6.rec (motive := fun _ => RU) (fun v0 v1 v2 v6 v7 v8 => 
 uCall C 30 [v8] S fun v9 S =>
 uNot v9 S fun v10 S =>
 uCall C 25 [v0, v10, (.n 11)] S fun v11 S =>
 κ .normal (.mk v0 v1 v2 v6 v7 v8) S) v
def u51_3 (C : CU) : CdU W6 := fun v S κ => W6.rec (motive := fun _ => RU) (fun v0 v1 v2 v6 v7 v8 => 
 κ .normal (.mk v0 v1 v2 v7 v7 v8) S) v
def u51r (v : W6) (S : FAW) : RU := W6.rec (motive := fun _ => RU) (fun v0 v1 v2 v6 v7 v8 => .ok v6 S) v
def u51 : Fu := fun C n args S => (seqU (u51_0 C) (seqU (u51_1 C) (seqU (u51_2 C) (seqU (u51_3 C) (retU)))) : CdU W6) (.mk (argU args 0) (argU args 1) (argU args 2) (argU args 6) (argU args 7) (argU args 8)) S fun o v S => exU o (u51r v S) (fun _ => .no) (u51r v S)
/-! assayer/kind.Show -/
def u52_0 (C : CU) : CdU W14 := fun v S κ => W14.rec (motive := fun _ => RU) (fun v0 v1 v2 v3 v4 v8 v9 v10 v11 v12 v15 v20 v25 v38 => 
 uBox 3 1 v0 S fun v39 S =>
 κ .normal (.mk v0 v1 v2 v3 v39 (.s []) v9 v10 v11 v12 v15 v20 v25 v38) S) v
def u52_1 (C : CU) : CdU W14 := fun v S κ => W14.rec (motive := fun _ => RU) (fun v0 v1 v2 v3 v4 v8 v9 v10 v11 v12 v15 v20 v25 v38 => 
 uLd none v4 S fun v39 S =>
 κ .normal (.mk v0 v1 v2 v3 v4 v8 v9 v10 v39 v12 v15 v20 v25 v38) S) v
def u52_2 (C : CU) : CdU W14 := fun v S κ => W14.rec (motive := fun _ => RU) (fun v0 v1 v2 v3 v4 v8 v9 v10 v11 v12 v15 v20 v25 v38 => 
 uEq false .eql v11 (.n 0) S fun v39 S =>
 κ .normal (.mk v0 v1 v2 v3 v4 v8 v9 v10 v11 v39 v15 v20 v25 v38) S) v
def u52_3 : W14 → FV := fun v => W14.rec (motive := fun _ => FV) (fun v0 v1 v2 v3 v4 v8 v9 v10 v11 v12 v15 v20 v25 v38 => v12) v
def u52_4 (C : CU) : CdU W14 := fun v S κ => W14.rec (motive := fun _ => RU) (fun v0 v1 v2 v3 v4 v8 v9 v10 v11 v12 v15 v20 v25 v38 => 
 κ .normal (.mk v0 v1 v2 v3 v4 v1 v9 v10 v11 v12 v15 v20 v25 v38) S) v
def u52_5 (C : CU) : CdU W14 := fun v S κ => W14.rec (motive := fun _ => RU) (fun v0 v1 v2 v3 v4 v8 v9 v10 v11 v12 v15 v20 v25 v38 => 
 uEq false .eql v11 (.n 15) S fun v39 S =>
 κ .normal (.mk v0 v1 v2 v3 v4 v8 v9 v10 v11 v12 v39 v20 v25 v38) S) v
def u52_6 : W14 → FV := fun v => W14.rec (motive := fun _ => FV) (fun v0 v1 v2 v3 v4 v8 v9 v10 v11 v12 v15 v20 v25 v38 => v15) v
def u52_7 (C : CU) : CdU W14 := fun v S κ => W14.rec (motive := fun _ => RU) (fun v0 v1 v2 v3 v4 v8 v9 v10 v11 v12 v15 v20 v25 v38 => 
 uAdd (.s [108, 105, 115, 116, 60]) v2 S fun v39 S =>
 uAdd v39 (.s [62]) S fun v40 S =>
 κ .normal (.mk v0 v1 v2 v3 v4 v40 v9 v10 v11 v12 v15 v20 v25 v38) S) v
def u52_8 (C : CU) : CdU W14 := fun v S κ => W14.rec (motive := fun _ => RU) (fun v0 v1 v2 v3 v4 v8 v9 v10 v11 v12 v15 v20 v25 v38 => 
 uEq false .eql v11 (.n 14) S fun v39 S =>
 κ .normal (.mk v0 v1 v2 v3 v4 v8 v9 v10 v11 v12 v15 v39 v25 v38) S) v
def u52_9 : W14 → FV := fun v => W14.rec (motive := fun _ => FV) (fun v0 v1 v2 v3 v4 v8 v9 v10 v11 v12 v15 v20 v25 v38 => v20) v
def u52_10 (C : CU) : CdU W14 := fun v S κ => W14.rec (motive := fun _ => RU) (fun v0 v1 v2 v3 v4 v8 v9 v10 v11 v12 v15 v20 v25 v38 => 
 uAdd (.s [115, 101, 116, 60]) v2 S fun v39 S =>
 uAdd v39 (.s [62]) S fun v40 S =>
 κ .normal (.mk v0 v1 v2 v3 v4 v40 v9 v10 v11 v12 v15 v20 v25 v38) S) v
def u52_11 (C : CU) : CdU W14 := fun v S κ => W14.rec (motive := fun _ => RU) (fun v0 v1 v2 v3 v4 v8 v9 v10 v11 v12 v15 v20 v25 v38 => 
 uEq false .eql v11 (.n 13) S fun v39 S =>
 κ .normal (.mk v0 v1 v2 v3 v4 v8 v9 v10 v11 v12 v15 v20 v39 v38) S) v
def u52_12 : W14 → FV := fun v => W14.rec (motive := fun _ => FV) (fun v0 v1 v2 v3 v4 v8 v9 v10 v11 v12 v15 v20 v25 v38 => v25) v
def u52_13 (C : CU) : CdU W14 := fun v S κ => W14.rec (motive := fun _ => RU) (fun v0 v1 v2 v3 v4 v8 v9 v10 v11 v12 v15 v20 v25 v38 => 
 uAdd (.s [109, 97, 112, 60]) v2 S fun v39 S =>
 uAdd v39 (.s [44]) S fun v40 S =>
 uAdd v40 v3 S fun v41 S =>
 uAdd v41 (.s [62]) S fun v42 S =>
 κ .normal (.mk v0 v1 v2 v3 v4 v42 v9 v10 v11 v12 v15 v20 v25 v38) S) v
def u52_14 (C : CU) : CdU W14 := fun v S κ => W14.rec (motive := fun _ => RU) (fun v0 v1 v2 v3 v4 v8 v9 v10 v11 v12 v15 v20 v25 v38 => 
 uLitF 9 1 [(.s [])] 8 [(0, 1, (.s [98, 111, 111, 108])), (1, 1, (.s [105, 56])), (2, 1, (.s [105, 49, 54])), (3, 1, (.s [105, 51, 50])), (4, 1, (.s [105, 54, 52])), (5, 1, (.s [100, 111, 117, 98, 108, 101])), (6, 1, (.s [115, 116, 114, 105, 110, 103])), (7, 1, (.s [98, 105, 110, 97, 114, 121]))] S fun v39 S =>
 κ .normal (.mk v0 v1 v2 v3 v4 v8 v39 v10 v11 v12 v15 v20 v25 v38) S) v
def u52_15 (C : CU) : CdU W14 := fun v S κ => W14.rec (motive := fun _ => RU) (fun v0 v1 v2 v3 v4 v8 v9 v10 v11 v12 v15 v20 v25 v38 => 
 uMkf 76 [] [v4] S fun v39 S =>
 uCall C 75 [v9, v39] S fun v40 S =>
 κ .normal (.mk v0 v1 v2 v3 v4 v8 v9 v40 v11 v12 v15 v20 v25 v38) S) v
def u52_16 (C : CU) : CdU W14 := fun v S κ => W14.rec (motive := fun _ => RU) (fun v0 v1 v2 v3 v4 v8 v9 v10 v11 v12 v15 v20 v25 v38 => 
 uCmp ltN .lss v10 (.n 0) S fun v39 S =>
 κ .normal (.mk v0 v1 v2 v3 v4 v8 v9 v10 v11 v12 v15 v20 v25 v39) S) v
def u52_17 : W14 → FV := fun v => W14.rec (motive := fun _ => FV) (fun v0 v1 v2 v3 v4 v8 v9 v10 v11 v12 v15 v20 v25 v38 => v38) v
def u52_18 (C : CU) : CdU W14 := fun v S κ => W14.rec (motive := fun _ => RU) (fun v0 v1 v2 v3 v4 v8 v9 v10 v11 v12 v15 v20 v25 v38 => 
 κ .normal (.mk v0 v1 v2 v3 v4 (.s []) v9 v10 v11 v12 v15 v20 v25 v38) S) v
def u52_19 (C : CU) : CdU W14 := fun v S κ => W14.rec (motive := fun _ => RU) (fun v0 v1 v2 v3 v4 v8 v9 v10 v11 v12 v15 v20 v25 v38 => 
 uIad 1 v9 v10 S fun v39 S =>
 uLd none v39 S fun v40 S =>
 κ .normal (.mk v0 v1 v2 v3 v4 v40 v9 v10 v11 v12 v15 v20 v25 v38) S) v
def u52r (v : W14) (S : FAW) : RU := W14.rec (motive := fun _ => RU) (fun v0 v1 v2 v3 v4 v8 v9 v10 v11 v12 v15 v20 v25 v38 => .ok v8 S) v
def u52 : Fu := fun C n args S => (seqU (u52_0 C) (seqU (seqU (u52_1 C) (blockU 0 (seqU (u52_2 C) (condU u52_3 (seqU (u52_4 C) (retU)) (seqU (u52_5 C) (condU u52_6 (seqU (u52_7 C) (retU)) (seqU (u52_8 C) (condU u52_9 (seqU (u52_10 C) (retU)) (seqU (u52_11 C) (condU u52_12 (seqU (u52_13 C) (retU)) (skipU))))))))))) (seqU (u52_14 C) (seqU (u52_15 C) (seqU (seqU (u52_16 C) (condU u52_17 (seqU (u52_18 C) (retU)) (skipU))) (seqU (u52_19 C) (retU)))))) : CdU W14) (.mk (argU args 0) (argU args 1) (argU args 2) (argU args 3) (argU args 4) (argU args 8) (argU args 9) (argU args 10) (argU args 11) (argU args 12) (argU args 15) (argU args 20) (argU args 25) (argU args 38)) S fun o v S => exU o (u52r v S) (fun _ => .no) (u52r v S)
/-! assayer/assayerref5.ShowType -/
def u54_0 (C : CU) : CdU W9 := fun v S κ => W9.rec (motive := fun _ => RU) (fun v0 v1 v2 v3 v8 v9 v10 v13 v22 => 
 κ .normal (.mk v0 v1 v2 v3 (.s []) v9 v10 v13 v22) S) v
def u54_1 (C : CU) : CdU W9 := fun v S κ => W9.rec (motive := fun _ => RU) (fun v0 v1 v2 v3 v8 v9 v10 v13 v22 => 
 κ .normal (.mk v0 v1 v2 v3 v8 v0 v10 v13 v22) S) v
def u54_2 (C : CU) : CdU W9 := fun v S κ => W9.rec (motive := fun _ => RU) (fun v0 v1 v2 v3 v8 v9 v10 v13 v22 => 
 uEq false .eql v9 (.n 0) S fun v23 S =>
 κ .normal (.mk v0 v1 v2 v3 v8 v9 v23 v13 v22) S) v
def u54_3 : W9 → FV := fun v => W9.rec (motive := fun _ => FV) (fun v0 v1 v2 v3 v8 v9 v10 v13 v22 => v10) v
def u54_4 (C : CU) : CdU W9 := fun v S κ => W9.rec (motive := fun _ => RU) (fun v0 v1 v2 v3 v8 v9 v10 v13 v22 => 
 κ .normal (.mk v0 v1 v2 v3 v1 v9 v10 v13 v22) S) v
def u54_5 (C : CU) : CdU W9 := fun v S κ => W9.rec (motive := fun _ => RU) (fun v0 v1 v2 v3 v8 v9 v10 v13 v22 => 
 uEq false .eql v9 (.n 15) S fun v23 S =>
 κ .normal (.mk v0 v1 v2 v3 v8 v9 v10 v23 v22) S) v
def u54_6 : W9 → FV := fun v => W9.rec (motive := fun _ => FV) (fun v0 v1 v2 v3 v8 v9 v10 v13 v22 => v13) v
def u54_7 (C : CU) : CdU W9 := fun v S κ => W9.rec (motive := fun _ => RU) (fun v0 v1 v2 v3 v8 v9 v10 v13 v22 => 
 uEq false .eql v9 (.n 14) S fun v23 S =>
 κ .normal (.mk v0 v1 v2 v3 v8 v9 v10 v23 v22) S) v
def u54_8 : W9 → FV := fun v => W9.rec (motive := fun _ => FV) (fun v0 v1 v2 v3 v8 v9 v10 v13 v22 => v13) v
def u54_9 (C : CU) : CdU W9 := fun v S κ => W9.rec (motive := fun _ => RU) (fun v0 v1 v2 v3 v8 v9 v10 v13 v22 => 
 uCall C 79 [v0] S fun v23 S =>
 uAdd v23 (.s [60]) S fun v24 S =>
 uAdd v24 v2 S fun v25 S =>
 uAdd v25 (.s [62]) S fun v26 S =>
 κ .normal (.mk v0 v1 v2 v3 v26 v9 v10 v13 v22) S) v
def u54_10 (C : CU) : CdU W9 := fun v S κ => W9.rec (motive := fun _ => RU) (fun v0 v1 v2 v3 v8 v9 v10 v13 v22 => 
 uEq false .eql v9 (.n 13) S fun v23 S =>
 κ .normal (.mk v0 v1 v2 v3 v8 v9 v10 v13 v23) S) v
def u54_11 : W9 → FV := fun v => W9.rec (motive := fun _ => FV) (fun v0 v1 v2 v3 v8 v9 v10 v13 v22 => v22) v
def u54_12 (C : CU) : CdU W9 := fun v S κ => W9.rec (motive := fun _ => RU) (fun v0 v1 v2 v3 v8 v9 v10 v13 v22 => 
 uAdd (.s [109, 97, 112, 60]) v2 S fun v23 S =>
 uAdd v23 (.s [44]) S fun v24 S =>
 uAdd v24 v3 S fun v25 S =>
 uAdd v25 (.s [62]) S fun v26 S =>
 κ .normal (.mk v0 v1 v2 v3 v26 v9 v10 v13 v22) S) v
def u54_13 (C : CU) : CdU W9 := fun v S κ => W9.rec (motive := fun _ => RU) (fun v0 v1 v2 v3 v8 v9 v10 v13 v22 => 
 uCall C 79 [v0] S fun v23 S =>
 κ .normal (.mk v0 v1 v2 v3 v23 v9 v10 v13 v22) S) v
def u54r (v : W9) (S : FAW) : RU := W9.rec (motive := fun _ => RU) (fun v0 v1 v2 v3 v8 v9 v10 v13 v22 => .ok v8 S) v
def u54 : Fu := fun C n args S => (seqU (u54_0 C) (seqU (seqU (u54_1 C) (blockU 0 (seqU (u54_2 C) (condU u54_3 (seqU (u54_4 C) (retU)) (seqU (seqU (u54_5 C) (condU u54_6 (skipU) (u54_7 C))) (condU u54_8 (seqU (u54_9 C) (retU)) (seqU (u54_10 C) (condU u54_11 (seqU (u54_12 C) (retU)) (skipU))))))))) (seqU (u54_13 C) (retU))) : CdU W9) (.mk (argU args 0) (argU args 1) (argU args 2) (argU args 3) (argU args 8) (argU args 9) (argU args 10) (argU args 13) (argU args 22)) S fun o v S => exU o (u54r v S) (fun _ => .no) (u54r v S)
/-! strings.IndexByte -/
def u55_0 (C : CU) : CdU W3 := fun v S κ => W3.rec (motive := fun _ => RU) (fun v0 v1 v4 => 
 κ .normal (.mk v0 v1 (.n 0)) S) v
def u55_1 (C : CU) : CdU W3 := fun v S κ => W3.rec (motive := fun _ => RU) (fun v0 v1 v4 => 
 uCall C 80 [v0, v1] S fun v5 S =>
 κ .normal (.mk v0 v1 v5) S) v
def u55r (v : W3) (S : FAW) : RU := W3.rec (motive := fun _ => RU) (fun v0 v1 v4 => .ok v4 S) v
def u55 : Fu := fun C n args S => (seqU (u55_0 C) (seqU (u55_1 C) (retU)) : CdU W3) (.mk (argU args 0) (argU args 1) (argU args 4)) S fun o v S => exU o (u55r v S) (fun _ => .no) (u55r v S)
/-! slices.Contains[[]int,int] -/
def u56_0 (C : CU) : CdU W3 := fun v S κ => W3.rec (motive := fun _ => RU) (fun v0 v1 v4 => 
 κ .normal (.mk v0 v1 (.t false)) S) v
def u56_1 (C : CU) : CdU W3 := fun v S κ => W3.rec (motive := fun _ => RU) (fun v0 v1 v4 => 
 uCall C 81 [v0, v1] S fun v5 S =>
 uCmp (fun a b => Nat.ble b a) .geq v5 (.n 0) S fun v6 S =>
 κ .normal (.mk v0 v1 v6) S) v
def u56r (v : W3) (S : FAW) : RU := W3.rec (motive := fun _ => RU) (fun v0 v1 v4 => .ok v4 S) v
def u56 : Fu := fun C n args S => (seqU (u56_0 C) (seqU (u56_1 C) (retU)) : CdU W3) (.mk (argU args 0) (argU args 1) (argU args 4)) S fun o v S => exU o (u56r v S) (fun _ => .no) (u56r v S)
/-! internal/stringslite.Cut -/
def u57_0 (C : CU) : CdU W7 := fun v S κ => W7.rec (motive := fun _ => RU) (fun v0 v1 v4 v5 v6 v7 v12 => 
 κ .normal (.mk v0 v1 (.s []) (.s []) (.t false) v7 v12) S) v
def u57_1 (C : CU) : CdU W7 := fun v S κ => W7.rec (motive := fun _ => RU) (fun v0 v1 v4 v5 v6 v7 v12 => 
 uCall C 82 [v0, v1] S fun v13 S =>
 κ .normal (.mk v0 v1 v4 v5 v6 v13 v12) S) v
def u57_2 (C : CU) : CdU W7 := fun v S κ => W7.rec (motive := fun _ => RU) (fun v0 v1 v4 v5 v6 v7 v12 => 
 uCmp (fun a b => Nat.ble b a) .geq v7 (.n 0) S fun v13 S =>
 κ .normal (.mk v0 v1 v4 v5 v6 v7 v13) S) v
def u57_3 : W7 → FV := fun v => W7.rec (motive := fun _ => FV) (fun v0 v1 v4 v5 v6 v7 v12 => v12) v
def u57_4 (C : CU) : CdU W7 := fun v S κ => W7.rec (motive := fun _ => RU) (fun v0 v1 v4 v5 v6 v7 v12 => 
 uSlS v0 none (some v7) S fun v13 S =>
 uLen true v1 S fun v14 S =>
 uAdd v7 v14 S fun v15 S =>
 uSlS v0 (some v15) none S fun v16 S =>
 κ .normal (.mk v0 v1 v13 v16 (.t true) v7 v12) S) v
def u57_5 (C : CU) : CdU W7 := fun v S κ => W7.rec (motive := fun _ => RU) (fun v0 v1 v4 v5 v6 v7 v12 => 
 κ .normal (.mk v0 v1 v0 (.s []) (.t false) v7 v12) S) v
def u57r (v : W7) (S : FAW) : RU := W7.rec (motive := fun _ => RU) (fun v0 v1 v4 v5 v6 v7 v12 => .ok (.u [v4, v5, v6]) S) v
def u57 : Fu := fun C n args S => (seqU (u57_0 C) (seqU (seqU (u57_1 C) (seqU (u57_2 C) (condU u57_3 (seqU (u57_4 C) (retU)) (skipU)))) (seqU (u57_5 C) (retU))) : CdU W7) (.mk (argU args 0) (argU args 1) (argU args 4) (argU args 5) (argU args 6) (argU args 7) (argU args 12)) S fun o v S => exU o (u57r v S) (fun _ => .no) (u57r v S)
/-! slices.Index[[]string,string] -/
def u58_0 (C : CU) : CdU W8 := fun v S κ => W8.rec (motive := fun _ => RU) (fun v0 v1 v4 v5 v7 v8 v9 v16 => 
 κ .normal (.mk v0 v1 (.n 0) v5 v7 v8 v9 v16) S) v
def u58_1 (C : CU) : CdU W8 := fun v S κ => W8.rec (motive := fun _ => RU) (fun v0 v1 v4 v5 v7 v8 v9 v16 => 
 uLen false v0 S fun v17 S =>
 κ .normal (.mk v0 v1 v4 v5 v17 (.n 0) v9 v16) S) v
def u58_2 (C : CU) : CdU W8 := fun v S κ => W8.rec (motive := fun _ => RU) (fun v0 v1 v4 v5 v7 v8 v9 v16 => 
 uCmp ltN .lss v8 v7 S fun v17 S =>
 κ .normal (.mk v0 v1 v4 v5 v7 v8 v17 v16) S) v
def u58_3 : W8 → FV := fun v => W8.rec (motive := fun _ => FV) (fun v0 v1 v4 v5 v7 v8 v9 v16 => v9) v
def u58_4 (C : CU) : CdU W8 := fun v S κ => W8.rec (motive := fun _ => RU) (fun v0 v1 v4 v5 v7 v8 v9 v16 => 
 κ .normal (.mk v0 v1 v4 v8 v7 v8 v9 v16) S) v
def u58_5 (C : CU) : CdU W8 := fun v S κ => W8.rec (motive := fun _ => RU) (fun v0 v1 v4 v5 v7 v8 v9 v16 => 
 uIad 1 v0 v5 S fun v17 S =>
 uLd none v17 S fun v18 S =>
 uEq false .eql v1 v18 S fun v19 S =>
 κ .normal (.mk v0 v1 v4 v5 v7 v8 v9 v19) S) v
def u58_6 : W8 → FV := fun v => W8.rec (motive := fun _ => FV) (fun v0 v1 v4 v5 v7 v8 v9 v16 => v16) v
def u58_7 (C : CU) : CdU W8 := fun v S κ => W8.rec (motive := fun _ => RU) (fun v0 v1 v4 v5 v7 v8 v9 v16 => 
 κ .normal (.mk v0 v1 v5 v5 v7 v8 v9 v16) S) v
def u58_8 (C : CU) : CdU W8 := fun v S κ => W8.rec (motive := fun _ => RU) (fun v0 v1 v4 v5 v7 v8 v9 v16 => 
 uAdd v8 (.n 1) S fun v17 S =>
 κ .normal (.mk v0 v1 v4 v5 v7 v17 v9 v16) S) v
def u58_9 (C : CU) (n : Nat) : CdU W8 := seqU (u58_2 C) (seqU (condU u58_3 (skipU) (exitU 0)) (seqU (blockU 1 (seqU (u58_4 C) (seqU (u58_5 C) (condU u58_6 (seqU (u58_7 C) (retU)) (skipU))))) (u58_8 C)))
def u58_10 (C : CU) : CdU W8 := fun v S κ => W8.rec (motive := fun _ => RU) (fun v0 v1 v4 v5 v7 v8 v9 v16 => 
 κ .normal (.mk v0 v1 (.i .i64 (-1)) v5 v7 v8 v9 v16) S) v
def u58r (v : W8) (S : FAW) : RU := W8.rec (motive := fun _ => RU) (fun v0 v1 v4 v5 v7 v8 v9 v16 => .ok v4 S) v
def u58 : Fu := fun C n args S => (seqU (u58_0 C) (seqU (seqU (u58_1 C) (blockU 0 (loopU n (u58_9 C n)))) (seqU (u58_10 C) (retU))) : CdU W8) (.mk (argU args 0) (argU args 1) (argU args 4) (argU args 5) (argU args 7) (argU args 8) (argU args 9) (argU args 16)) S fun o v S => exU o (u58r v S) (fun _ => .no) (u58r v S)
/-! assayer/assayerref5.base -/
def u61_0 (C : CU) : CdU W14 := fun v S κ => W14.rec (motive := fun _ => RU) (fun v0 v2 v3 v4 v6 v8 v10 v12 v14 v16 v18 v20 v22 v24 => 
 κ .normal (.mk v0 (.n 0) v3 v4 v6 v8 v10 v12 v14 v16 v18 v20 v22 v24) S) v
def u61_1 (C : CU) : CdU W14 := fun v S κ => W14.rec (motive := fun _ => RU) (fun v0 v2 v3 v4 v6 v8 v10 v12 v14 v16 v18 v20 v22 v24 => 
 κ .normal (.mk v0 v2 v0 v4 v6 v8 v10 v12 v14 v16 v18 v20 v22 v24) S) v
def u61_2 (C : CU) : CdU W14 := fun v S κ => W14.rec (motive := fun _ => RU) (fun v0 v2 v3 v4 v6 v8 v10 v12 v14 v16 v18 v20 v22 v24 => 
 uEq false .eql v3 (.s [98, 111, 111, 108]) S fun v25 S =>
 κ .normal (.mk v0 v2 v3 v25 v6 v8 v10 v12 v14 v16 v18 v20 v22 v24) S) v
def u61_3 : W14 → FV := fun v => W14.rec (motive := fun _ => FV) (fun v0 v2 v3 v4 v6 v8 v10 v12 v14 v16 v18 v20 v22 v24 => v4) v
def u61_4 (C : CU) : CdU W14 := fun v S κ => W14.rec (motive := fun _ => RU) (fun v0 v2 v3 v4 v6 v8 v10 v12 v14 v16 v18 v20 v22 v24 => 
 κ .normal (.mk v0 (.n 2) v3 v4 v6 v8 v10 v12 v14 v16 v18 v20 v22 v24) S) v
def u61_5 (C : CU) : CdU W14 := fun v S κ => W14.rec (motive := fun _ => RU) (fun v0 v2 v3 v4 v6 v8 v10 v12 v14 v16 v18 v20 v22 v24 => 
 uEq false .eql v3 (.s [105, 56]) S fun v25 S =>
 κ .normal (.mk v0 v2 v3 v4 v25 v8 v10 v12 v14 v16 v18 v20 v22 v24) S) v
def u61_6 : W14 → FV := fun v => W14.rec (motive := fun _ => FV) (fun v0 v2 v3 v4 v6 v8 v10 v12 v14 v16 v18 v20 v22 v24 => v6) v
def u61_7 (C : CU) : CdU W14 := fun v S κ => W14.rec (motive := fun _ => RU) (fun v0 v2 v3 v4 v6 v8 v10 v12 v14 v16 v18 v20 v22 v24 => 
 κ .normal (.mk v0 (.n 3) v3 v4 v6 v8 v10 v12 v14 v16 v18 v20 v22 v24) S) v
def u61_8 (C : CU) : CdU W14 := fun v S κ => W14.rec (motive := fun _ => RU) (fun v0 v2 v3 v4 v6 v8 v10 v12 v14 v16 v18 v20 v22 v24 => 
 uEq false .eql v3 (.s [105, 49, 54]) S fun v25 S =>
 κ .normal (.mk v0 v2 v3 v4 v6 v25 v10 v12 v14 v16 v18 v20 v22 v24) S) v
def u61_9 : W14 → FV := fun v => W14.rec (motive := fun _ => FV) (fun v0 v2 v3 v4 v6 v8 v10 v12 v14 v16 v18 v20 v22 v24 => v8) v
def u61_10 (C : CU) : CdU W14 := fun v S κ => W14.rec (motive := fun _ => RU) (fun v0 v2 v3 v4 v6 v8 v10 v12 v14 v16 v18 v20 v22 v24 => 
 κ .normal (.mk v0 (.n 6) v3 v4 v6 v8 v10 v12 v14 v16 v18 v20 v22 v24) S) v
def u61_11 (C : CU) : CdU W14 := fun v S κ => W14.rec (motive := fun _ => RU) (fun v0 v2 v3 v4 v6 v8 v10 v12 v14 v16 v18 v20 v22 v24 => 
 uEq false .eql v3 (.s [105, 51, 50]) S fun v25 S =>
 κ .normal (.mk v0 v2 v3 v4 v6 v8 v25 v12 v14 v16 v18 v20 v22 v24) S) v
def u61_12 : W14 → FV := fun v => W14.rec (motive := fun _ => FV) (fun v0 v2 v3 v4 v6 v8 v10 v12 v14 v16 v18 v20 v22 v24 => v10) v
def u61_13 (C : CU) : CdU W14 := fun v S κ => W14.rec (motive := fun _ => RU) (fun v0 v2 v3 v4 v6 v8 v10 v12 v14 v16 v18 v20 v22 v24 => 
 κ .normal (.mk v0 (.n 8) v3 v4 v6 v8 v10 v12 v14 v16 v18 v20 v22 v24) S) v
def u61_14 (C : CU) : CdU W14 := fun v S κ => W14.rec (motive := fun _ => RU) (fun v0 v2 v3 v4 v6 v8 v10 v12 v14 v16 v18 v20 v22 v24 => 
 uEq false .eql v3 (.s [105, 54, 52]) S fun v25 S =>
 κ .normal (.mk v0 v2 v3 v4 v6 v8 v10 v25 v14 v16 v18 v20 v22 v24) S) v
def u61_15 : W14 → FV := fun v => W14.rec (motive := fun _ => FV) (fun v0 v2 v3 v4 v6 v8 v10 v12 v14 v16 v18 v20 v22 v24 => v12) v
def u61_16 (C : CU) : CdU W14 := fun v S κ => W14.rec (motive := fun _ => RU) (fun v0 v2 v3 v4 v6 v8 v10 v12 v14 v16 v18 v20 v22 v24 => 
 κ .normal (.mk v0 (.n 10) v3 v4 v6 v8 v10 v12 v14 v16 v18 v20 v22 v24) S) v
def u61_17 (C : CU) : CdU W14 := fun v S κ => W14.rec (motive := fun _ => RU) (fun v0 v2 v3 v4 v6 v8 v10 v12 v14 v16 v18 v20 v22 v24 => 
 uEq false .eql v3 (.s [100, 111, 117, 98, 108, 101]) S fun v25 S =>
 κ .normal (.mk v0 v2 v3 v4 v6 v8 v10 v12 v25 v16 v18 v20 v22 v24) S) v
def u61_18 : W14 → FV := fun v => W14.rec (motive := fun _ => FV) (fun v0 v2 v3 v4 v6 v8 v10 v12 v14 v16 v18 v20 v22 v24 => v14) v
def u61_19 (C : CU) : CdU W14 := fun v S κ => W14.rec (motive := fun _ => RU) (fun v0 v2 v3 v4 v6 v8 v10 v12 v14 v16 v18 v20 v22 v24 => 
 κ .normal (.mk v0 (.n 4) v3 v4 v6 v8 v10 v12 v14 v16 v18 v20 v22 v24) S) v
def u61_20 (C : CU) : CdU W14 := fun v S κ => W14.rec (motive := fun _ => RU) (fun v0 v2 v3 v4 v6 v8 v10 v12 v14 v16 v18 v20 v22 v24 => 
 uEq false .eql v3 (.s [115, 116, 114, 105, 110, 103]) S fun v25 S =>
 κ .normal (.mk v0 v2 v3 v4 v6 v8 v10 v12 v14 v25 v18 v20 v22 v24) S) v
def u61_21 : W14 → FV := fun v => W14.rec (motive := fun _ => FV) (fun v0 v2 v3 v4 v6 v8 v10 v12 v14 v16 v18 v20 v22 v24 => v16) v
def u61_22 (C : CU) : CdU W14 := fun v S κ => W14.rec (motive := fun _ => RU) (fun v0 v2 v3 v4 v6 v8 v10 v12 v14 v16 v18 v20 v22 v24 => 
 κ .normal (.mk v0 (.n 11) v3 v4 v6 v8 v10 v12 v14 v16 v18 v20 v22 v24) S) v
def u61_23 (C : CU) : CdU W14 := fun v S κ => W14.rec (motive := fun _ => RU) (fun v0 v2 v3 v4 v6 v8 v10 v12 v14 v16 v18 v20 v22 v24 => 
 uEq false .eql v3 (.s [98, 105, 110, 97, 114, 121]) S fun v25 S =>
 κ .normal (.mk v0 v2 v3 v4 v6 v8 v10 v12 v14 v16 v25 v20 v22 v24) S) v
def u61_24 : W14 → FV := fun v => W14.rec (motive := fun _ => FV) (fun v0 v2 v3 v4 v6 v8 v10 v12 v14 v16 v18 v20 v22 v24 => v18) v
def u61_25 (C : CU) : CdU W14 := fun v S κ => W14.rec (motive := fun _ => RU) (fun v0 v2 v3 v4 v6 v8 v10 v12 v14 v16 v18 v20 v22 v24 => 
 κ .normal (.mk v0 (.n 16) v3 v4 v6 v8 v10 v12 v14 v16 v18 v20 v22 v24) S) v
def u61_26 (C : CU) : CdU W14 := fun v S κ => W14.rec (motive := fun _ => RU) (fun v0 v2 v3 v4 v6 v8 v10 v12 v14 v16 v18 v20 v22 v24 => 
 uEq false .eql v3 (.s [108, 105, 115, 116]) S fun v25 S =>
 κ .normal (.mk v0 v2 v3 v4 v6 v8 v10 v12 v14 v16 v18 v25 v22 v24) S) v
def u61_27 : W14 → FV := fun v => W14.rec (motive := fun _ => FV) (fun v0 v2 v3 v4 v6 v8 v10 v12 v14 v16 v18 v20 v22 v24 => v20) v
def u61_28 (C : CU) : CdU W14 := fun v S κ => W14.rec (motive := fun _ => RU) (fun v0 v2 v3 v4 v6 v8 v10 v12 v14 v16 v18 v20 v22 v24 => 
 κ .normal (.mk v0 (.n 15) v3 v4 v6 v8 v10 v12 v14 v16 v18 v20 v22 v24) S) v
def u61_29 (C : CU) : CdU W14 := fun v S κ => W14.rec (motive := fun _ => RU) (fun v0 v2 v3 v4 v6 v8 v10 v12 v14 v16 v18 v20 v22 v24 => 
 uEq false .eql v3 (.s [115, 101, 116]) S fun v25 S =>
 κ .normal (.mk v0 v2 v3 v4 v6 v8 v10 v12 v14 v16 v18 v20 v25 v24) S) v
def u61_30 : W14 → FV := fun v => W14.rec (motive := fun _ => FV) (fun v0 v2 v3 v4 v6 v8 v10 v12 v14 v16 v18 v20 v22 v24 => v22) v
def u61_31 (C : CU) : CdU W14 := fun v S κ => W14.rec (motive := fun _ => RU) (fun v0 v2 v3 v4 v6 v8 v10 v12 v14 v16 v18 v20 v22 v24 => 
 κ .normal (.mk v0 (.n 14) v3 v4 v6 v8 v10 v12 v14 v16 v18 v20 v22 v24) S) v
def u61_32 (C : CU) : CdU W14 := fun v S κ => W14.rec (motive := fun _ => RU) (fun v0 v2 v3 v4 v6 v8 v10 v12 v14 v16 v18 v20 v22 v24 => 
 uEq false .eql v3 (.s [109, 97, 112]) S fun v25 S =>
 κ .normal (.mk v0 v2 v3 v4 v6 v8 v10 v12 v14 v16 v18 v20 v22 v25) S) v
def u61_33 : W14 → FV := fun v => W14.rec (motive := fun _ => FV) (fun v0 v2 v3 v4 v6 v8 v10 v12 v14 v16 v18 v20 v22 v24 => v24) v
def u61_34 (C : CU) : CdU W14 := fun v S κ => W14.rec (motive := fun _ => RU) (fun v0 v2 v3 v4 v6 v8 v10 v12 v14 v16 v18 v20 v22 v24 => 
 κ .normal (.mk v0 (.n 13) v3 v4 v6 v8 v10 v12 v14 v16 v18 v20 v22 v24) S) v
def u61_35 (C : CU) : CdU W14 := fun v S κ => W14.rec (motive := fun _ => RU) (fun v0 v2 v3 v4 v6 v8 v10 v12 v14 v16 v18 v20 v22 v24 => 
 κ .normal (.mk v0 (.n 0) v3 v4 v6 v8 v10 v12 v14 v16 v18 v20 v22 v24) S) v
def u61r (v : W14) (S : FAW) : RU := W14.rec (motive := fun _ => RU) (fun v0 v2 v3 v4 v6 v8 v10 v12 v14 v16 v18 v20 v22 v24 => .ok v2 S) v
def u61 : Fu := fun C n args S => (seqU (u61_0 C) (seqU (seqU (u61_1 C) (blockU 0 (seqU (u61_2 C) (condU u61_3 (seqU (u61_4 C) (retU)) (seqU (u61_5 C) (condU u61_6 (seqU (u61_7 C) (retU)) (seqU (u61_8 C) (condU u61_9 (seqU (u61_10 C) (retU)) (seqU (u61_11 C) (condU u61_12 (seqU (u61_13 C) (retU)) (seqU (u61_14 C) (condU u61_15 (seqU (u61_16 C) (retU)) (seqU (u61_17 C) (condU u61_18 (seqU (u61_19 C) (retU)) (seqU (u61_20 C) (condU u61_21 (seqU (u61_22 C) (retU)) (seqU (u61_23 C) (condU u61_24 (seqU (u61_25 C) (retU)) (seqU (u61_26 C) (condU u61_27 (seqU (u61_28 C) (retU)) (seqU (u61_29 C) (condU u61_30 (seqU (u61_31 C) (retU)) (seqU (u61_32 C) (condU u61_33 (seqU (u61_34 C) (retU)) (skipU))))))))))))))))))))))))) (seqU (u61_35 C) (retU))) : CdU W14) (.mk (argU args 0) (argU args 2) (argU args 3) (argU args 4) (argU args 6) (argU args 8) (argU args 10) (argU args 12) (argU args 14) (argU args 16) (argU args 18) (argU args 20) (argU args 22) (argU args 24)) S fun o v S => exU o (u61r v S) (fun _ => .no) (u61r v S)
/-! assayer/assayerref5.Lex -/
def u62_0 (C : CU) : CdU W11 := fun v S κ => W11.rec (motive := fun _ => RU) (fun v0 v2 v3 v4 v5 v6 v7 v10 v20 v35 v50 => 
 κ .normal (.mk v0 .nl (.n 0) (.n 0) v5 v6 v7 v10 v20 v35 v50) S) v
def u62_1 (C : CU) : CdU W11 := fun v S κ => W11.rec (motive := fun _ => RU) (fun v0 v2 v3 v4 v5 v6 v7 v10 v20 v35 v50 => 
 uLen true v0 S fun v51 S =>
 uCmp (fun a b => ltN b a) .gtr v51 (.n 2000) S fun v52 S =>
 κ .normal (.mk v0 v2 v3 v4 v5 v6 v7 v52 v20 v35 v50) S) v
def u62_2 : W11 → FV := fun v => W11.rec (motive := fun _ => FV) (fun v0 v2 v3 v4 v5 v6 v7 v10 v20 v35 v50 => v10) v
def u62_3 (C : CU) : CdU W11 := fun v S κ => W11.rec (motive := fun _ => RU) (fun v0 v2 v3 v4 v5 v6 v7 v10 v20 v35 v50 => 
 κ .normal (.mk v0 .nl (.n 4) (.n 0) v5 v6 v7 v10 v20 v35 v50) S) v
def u62_4 (C : CU) : CdU W11 := fun v S κ => W11.rec (motive := fun _ => RU) (fun v0 v2 v3 v4 v5 v6 v7 v10 v20 v35 v50 => 
 uBuildF [(.s []), (.n 0), (.n 0), (.n 0)] [(0, 1, v0)] S fun v51 S =>
 uBox 164 4 v51 S fun v52 S =>
 κ .normal (.mk v0 v2 v3 v4 v52 v6 v7 v10 v20 v35 v50) S) v
def u62_5 (C : CU) : CdU W11 := fun v S κ => W11.rec (motive := fun _ => RU) (fun v0 v2 v3 v4 v5 v6 v7 v10 v20 v35 v50 => 
 κ .normal (.mk v0 v2 v3 v4 v5 .nl v7 v10 v20 v35 v50) S) v
def u62_6 (C : CU) : CdU W11 := fun v S κ => W11.rec (motive := fun _ => RU) (fun v0 v2 v3 v4 v5 v6 v7 v10 v20 v35 v50 => 
 uCall C 86 [v5] S fun v51 S =>
 κ .normal (.mk v0 v2 v3 v4 v5 v6 v7 v10 v20 v35 v50) S) v
def u62_7 (C : CU) : CdU W11 := fun v S κ => W11.rec (motive := fun _ => RU) (fun v0 v2 v3 v4 v5 v6 v7 v10 v20 v35 v50 => 
 uGet 2 v5 S fun v53 S =>
 uEq true .neq v53 (.n 0) S fun v54 S =>
 κ .normal (.mk v0 v2 v3 v4 v5 v6 v7 v10 v54 v35 v50) S) v
def u62_8 : W11 → FV := fun v => W11.rec (motive := fun _ => FV) (fun v0 v2 v3 v4 v5 v6 v7 v10 v20 v35 v50 => v20) v
def u62_9 (C : CU) : CdU W11 := fun v S κ => W11.rec (motive := fun _ => RU) (fun v0 v2 v3 v4 v5 v6 v7 v10 v20 v35 v50 => 
 uGet 2 v5 S fun v53 S =>
 uGet 3 v5 S fun v56 S =>
 κ .normal (.mk v0 .nl v53 v56 v5 v6 v7 v10 v20 v35 v50) S) v
def u62_10 (C : CU) : CdU W11 := fun v S κ => W11.rec (motive := fun _ => RU) (fun v0 v2 v3 v4 v5 v6 v7 v10 v20 v35 v50 => 
 uCall C 87 [v5] S fun v51 S =>
 uNewF 137 5 [(.n 0), (.s []), (.n 0), (.i .u64 0), (.n 0)] S fun v52 S =>
 uSt 5 v52 v51 S fun v53 S =>
 κ .normal (.mk v0 v2 v3 v4 v5 v6 v52 v10 v20 v35 v50) S) v
def u62_11 (C : CU) : CdU W11 := fun v S κ => W11.rec (motive := fun _ => RU) (fun v0 v2 v3 v4 v5 v6 v7 v10 v20 v35 v50 => 
 uGet 2 v5 S fun v53 S =>
 uEq true .neq v53 (.n 0) S fun v54 S =>
 κ .normal (.mk v0 v2 v3 v4 v5 v6 v7 v10 v20 v54 v50) S) v
def u62_12 : W11 → FV := fun v => W11.rec (motive := fun _ => FV) (fun v0 v2 v3 v4 v5 v6 v7 v10 v20 v35 v50 => v35) v
def u62_13 (C : CU) : CdU W11 := fun v S κ => W11.rec (motive := fun _ => RU) (fun v0 v2 v3 v4 v5 v6 v7 v10 v20 v35 v50 => 
 uGet 2 v5 S fun v53 S =>
 uGet 3 v5 S fun v56 S =>
 κ .normal (.mk v0 .nl v53 v56 v5 v6 v7 v10 v20 v35 v50) S) v
def u62_14 (C : CU) : CdU W11 := fun v S κ => W11.rec (motive := fun _ => RU) (fun v0 v2 v3 v4 v5 v6 v7 v10 v20 v35 v50 => 
 uLd (some 5) v7 S fun v51 S =>
 uLitF 137 5 [(.n 0), (.s []), (.n 0), (.i .u64 0), (.n 0)] 1 [(0, 5, v51)] S fun v52 S =>
 uApp 137 5 48 v6 v52 S fun v53 S =>
 κ .normal (.mk v0 v2 v3 v4 v5 v53 v7 v10 v20 v35 v50) S) v
def u62_15 (C : CU) : CdU W11 := fun v S κ => W11.rec (motive := fun _ => RU) (fun v0 v2 v3 v4 v5 v6 v7 v10 v20 v35 v50 => 
 uFad 0 v7 S fun v51 S =>
 uLd none v51 S fun v52 S =>
 uEq false .eql v52 (.n 6) S fun v53 S =>
 κ .normal (.mk v0 v2 v3 v4 v5 v6 v7 v10 v20 v35 v53) S) v
def u62_16 : W11 → FV := fun v => W11.rec (motive := fun _ => FV) (fun v0 v2 v3 v4 v5 v6 v7 v10 v20 v35 v50 => v50) v
def u62_17 (C : CU) : CdU W11 := fun v S κ => W11.rec (motive := fun _ => RU) (fun v0 v2 v3 v4 v5 v6 v7 v10 v20 v35 v50 => 
 κ .normal (.mk v0 v6 (.n 0) (.n 0) v5 v6 v7 v10 v20 v35 v50) S) v
def u62_18 (C : CU) (n : Nat) : CdU W11 := blockU 1 (seqU (u62_6 C) (seqU (seqU (u62_7 C) (condU u62_8 (seqU (u62_9 C) (retU)) (skipU))) (seqU (u62_10 C) (seqU (seqU (u62_11 C) (condU u62_12 (seqU (u62_13 C) (retU)) (skipU))) (seqU (u62_14 C) (seqU (u62_15 C) (condU u62_16 (seqU (u62_17 C) (retU)) (skipU))))))))
def u62r (v : W11) (S : FAW) : RU := W11.rec (motive := fun _ => RU) (fun v0 v2 v3 v4 v5 v6 v7 v10 v20 v35 v50 => .ok (.u [v2, v3, v4]) S) v
def u62 : Fu := fun C n args S => (seqU (u62_0 C) (seqU (seqU (u62_1 C) (condU u62_2 (seqU (u62_3 C) (retU)) (skipU))) (seqU (u62_4 C) (seqU (u62_5 C) (blockU 0 (loopU n (u62_18 C n)))))) : CdU W11) (.mk (argU args 0) (argU args 2) (argU args 3) (argU args 4) (argU args 5) (argU args 6) (argU args 7) (argU args 10) (argU args 20) (argU args 35) (argU args 50)) S fun o v S => exU o (u62r v S) (fun _ => .no) (u62r v S)
/-! (*assayer/assayerref5.parser).head -/
def u63_0 (C : CU) : CdU W9 := fun v S κ => W9.rec (motive := fun _ => RU) (fun v0 v1 v4 v5 v18 v40 v44 v55 v76 => 
 uGet 2 v0 S fun v79 S =>
 uEq false .eql v79 (.n 0) S fun v80 S =>
 eT v80 fun b => cn b
 (uCall C 88 [v0, (.s [105, 110, 99, 108, 117, 100, 101])] S fun v81 S =>
 eT v81 fun b => cn b
 (κ .normal (.mk v0 v1 v4 v5 (.t true) v40 v44 v55 v76) S)
 (uCall C 88 [v0, (.s [110, 97, 109, 101, 115, 112, 97, 99, 101])] S fun v82 S =>
 κ .normal (.mk v0 v1 v4 v5 v82 v40 v44 v55 v76) S))
 (κ .normal (.mk v0 v1 v4 v5 (.t false) v40 v44 v55 v76) S)) v
def u63_1 : W9 → FV := fun v => W9.rec (motive := fun _ => FV) (fun v0 v1 v4 v5 v18 v40 v44 v55 v76 => v18) v
def u63_2 (C : CU) : CdU W9 := fun v S κ => W9.rec (motive := fun _ => RU) (fun v0 v1 v4 v5 v18 v40 v44 v55 v76 => 
 uCall C 88 [v0, (.s [105, 110, 99, 108, 117, 100, 101])] S fun v77 S =>
 eT v77 fun b => cn b
 (uGet 0 v1 S fun v80 S =>
 uLen false v80 S fun v81 S =>
 uEq false .eql v81 (.n 5) S fun v82 S =>
 eT v82 fun b => cn b
 (κ .normal (.mk v0 v1 v4 v5 v18 (.t true) v44 v55 v76) S)
 (uCall C 88 [v0, (.s [110, 97, 109, 101, 115, 112, 97, 99, 101])] S fun v83 S =>
 eT v83 fun b => cn b
 (uGet 1 v1 S fun v86 S =>
 uLen false v86 S fun v87 S =>
 uEq false .eql v87 (.n 5) S fun v88 S =>
 κ .normal (.mk v0 v1 v4 v5 v18 v88 v44 v55 v76) S)
 (κ .normal (.mk v0 v1 v4 v5 v18 (.t false) v44 v55 v76) S)))
 (uCall C 88 [v0, (.s [110, 97, 109, 101, 115, 112, 97, 99, 101])] S fun v78 S =>
 eT v78 fun b => cn b
 (uGet 1 v1 S fun v81 S =>
 uLen false v81 S fun v82 S =>
 uEq false .eql v82 (.n 5) S fun v83 S =>
 κ .normal (.mk v0 v1 v4 v5 v18 v83 v44 v55 v76) S)
 (κ .normal (.mk v0 v1 v4 v5 v18 (.t false) v44 v55 v76) S))) v
def u63_3 : W9 → FV := fun v => W9.rec (motive := fun _ => FV) (fun v0 v1 v4 v5 v18 v40 v44 v55 v76 => v40) v
def u63_4 (C : CU) : CdU W9 := fun v S κ => W9.rec (motive := fun _ => RU) (fun v0 v1 v4 v5 v18 v40 v44 v55 v76 => 
 uCall C 66 [v0, (.n 4)] S fun v77 S =>
 κ .normal (.mk v0 v1 v4 v5 v18 v40 v44 v55 v76) S) v
def u63_5 (C : CU) : CdU W9 := fun v S κ => W9.rec (motive := fun _ => RU) (fun v0 v1 v4 v5 v18 v40 v44 v55 v76 => 
 uCall C 89 [v0, (.s [105, 110, 99, 108, 117, 100, 101])] S fun v77 S =>
 κ .normal (.mk v0 v1 v4 v5 v18 v40 v77 v55 v76) S) v
def u63_6 : W9 → FV := fun v => W9.rec (motive := fun _ => FV) (fun v0 v1 v4 v5 v18 v40 v44 v55 v76 => v44) v
def u63_7 (C : CU) : CdU W9 := fun v S κ => W9.rec (motive := fun _ => RU) (fun v0 v1 v4 v5 v18 v40 v44 v55 v76 => 
 uCall C 64 [v0] S fun v77 S =>
 uNewF 137 5 [(.n 0), (.s []), (.n 0), (.i .u64 0), (.n 0)] S fun v78 S =>
 uSt 5 v78 v77 S fun v79 S =>
 κ .normal (.mk v0 v1 v78 v5 v18 v40 v44 v55 v76) S) v
def u63_8 (C : CU) : CdU W9 := fun v S κ => W9.rec (motive := fun _ => RU) (fun v0 v1 v4 v5 v18 v40 v44 v55 v76 => 
 uFad 0 v4 S fun v77 S =>
 uLd none v77 S fun v78 S =>
 uEq true .neq v78 (.n 4) S fun v79 S =>
 eT v79 fun b => cn b
 (κ .normal (.mk v0 v1 v4 v5 v18 v40 v44 (.t true) v76) S)
 (uFad 1 v4 S fun v80 S =>
 uLd none v80 S fun v81 S =>
 uCall C 18 [v81] S fun v82 S =>
 uNot v82 S fun v83 S =>
 κ .normal (.mk v0 v1 v4 v5 v18 v40 v44 v83 v76) S)) v
def u63_9 : W9 → FV := fun v => W9.rec (motive := fun _ => FV) (fun v0 v1 v4 v5 v18 v40 v44 v55 v76 => v55) v
def u63_10 (C : CU) : CdU W9 := fun v S κ => W9.rec (motive := fun _ => RU) (fun v0 v1 v4 v5 v18 v40 v44 v55 v76 => 
 uCall C 66 [v0, (.n 2)] S fun v77 S =>
 κ .normal (.mk v0 v1 v4 v5 v18 v40 v44 v55 v76) S) v
def u63_11 (C : CU) : CdU W9 := fun v S κ => W9.rec (motive := fun _ => RU) (fun v0 v1 v4 v5 v18 v40 v44 v55 v76 => 
 uCall C 90 [v0] S fun v77 S =>
 κ .normal (.mk v0 v1 v4 v5 v18 v40 v44 v55 v76) S) v
def u63_12 (C : CU) : CdU W9 := fun v S κ => W9.rec (motive := fun _ => RU) (fun v0 v1 v4 v5 v18 v40 v44 v55 v76 => 
 uNilc v1 S fun v77 S =>
 uFad 0 v77 S fun v78 S =>
 uLd none v78 S fun v79 S =>
 uFad 1 v4 S fun v80 S =>
 uLd none v80 S fun v81 S =>
 uLitF 9 1 [(.s [])] 1 [(0, 1, v81)] S fun v82 S =>
 uLd none v80 S fun u _ => veqU u v81
 (uLd none v78 S fun u _ => veqU u v79
 (uApp 9 1 16 v79 v82 S fun v83 S =>
 uNilc v1 S fun v84 S =>
 uFad 0 v84 S fun v85 S =>
 uSt 1 v85 v83 S fun v86 S =>
 κ .normal (.mk v0 v1 v4 v5 v18 v40 v44 v55 v76) S))) v
def u63_13 (C : CU) : CdU W9 := fun v S κ => W9.rec (motive := fun _ => RU) (fun v0 v1 v4 v5 v18 v40 v44 v55 v76 => 
 uCall C 90 [v0] S fun v77 S =>
 κ .normal (.mk v0 v1 v4 v5 v18 v40 v44 v55 v76) S) v
def u63_14 (C : CU) : CdU W9 := fun v S κ => W9.rec (motive := fun _ => RU) (fun v0 v1 v4 v5 v18 v40 v44 v55 v76 => 
 uBuildF [(.s []), (.s [])] [(0, 1, (.s [42]))] S fun v77 S =>
 uNewF 109 2 [(.s []), (.s [])] S fun v78 S =>
 uSt 2 v78 v77 S fun v79 S =>
 κ .normal (.mk v0 v1 v4 v78 v18 v40 v44 v55 v76) S) v
def u63_15 (C : CU) : CdU W9 := fun v S κ => W9.rec (motive := fun _ => RU) (fun v0 v1 v4 v5 v18 v40 v44 v55 v76 => 
 uCall C 91 [v0, (.s [42])] S fun v77 S =>
 uNot v77 S fun v78 S =>
 κ .normal (.mk v0 v1 v4 v5 v18 v40 v44 v55 v78) S) v
def u63_16 : W9 → FV := fun v => W9.rec (motive := fun _ => FV) (fun v0 v1 v4 v5 v18 v40 v44 v55 v76 => v76) v
def u63_17 (C : CU) : CdU W9 := fun v S κ => W9.rec (motive := fun _ => RU) (fun v0 v1 v4 v5 v18 v40 v44 v55 v76 => 
 uCall C 92 [v0] S fun v77 S =>
 uFad 0 v5 S fun v78 S =>
 uSt 1 v78 v77 S fun v79 S =>
 κ .normal (.mk v0 v1 v4 v5 v18 v40 v44 v55 v76) S) v
def u63_18 (C : CU) : CdU W9 := fun v S κ => W9.rec (motive := fun _ => RU) (fun v0 v1 v4 v5 v18 v40 v44 v55 v76 => 
 uCall C 92 [v0] S fun v77 S =>
 uFad 1 v5 S fun v78 S =>
 uSt 1 v78 v77 S fun v79 S =>
 κ .normal (.mk v0 v1 v4 v5 v18 v40 v44 v55 v76) S) v
def u63_19 (C : CU) : CdU W9 := fun v S κ => W9.rec (motive := fun _ => RU) (fun v0 v1 v4 v5 v18 v40 v44 v55 v76 => 
 uNilc v1 S fun v77 S =>
 uFad 1 v77 S fun v78 S =>
 uLd none v78 S fun v79 S =>
 uLd (some 2) v5 S fun v80 S =>
 uLitF 109 2 [(.s []), (.s [])] 1 [(0, 2, v80)] S fun v81 S =>
 uLd (some 2) v5 S fun u _ => veqU u v80
 (uLd none v78 S fun u _ => veqU u v79
 (uApp 109 2 32 v79 v81 S fun v82 S =>
 uNilc v1 S fun v83 S =>
 uFad 1 v83 S fun v84 S =>
 uSt 1 v84 v82 S fun v85 S =>
 κ .normal (.mk v0 v1 v4 v5 v18 v40 v44 v55 v76) S))) v
def u63_20 (C : CU) (n : Nat) : CdU W9 := seqU (seqU (u63_0 C) (condU u63_1 (skipU) (exitU 0))) (blockU 1 (seqU (seqU (u63_2 C) (condU u63_3 (seqU (u63_4 C) (retU)) (skipU))) (seqU (seqU (u63_5 C) (condU u63_6 (seqU (u63_7 C) (seqU (seqU (u63_8 C) (condU u63_9 (seqU (u63_10 C) (retU)) (skipU))) (seqU (u63_11 C) (seqU (u63_12 C) (exitU 1))))) (skipU))) (seqU (u63_13 C) (seqU (u63_14 C) (seqU (seqU (u63_15 C) (condU u63_16 (u63_17 C) (skipU))) (seqU (u63_18 C) (u63_19 C))))))))
def u63r (v : W9) (S : FAW) : RU := W9.rec (motive := fun _ => RU) (fun v0 v1 v4 v5 v18 v40 v44 v55 v76 => .ok (.u []) S) v
def u63 : Fu := fun C n args S => (blockU 0 (loopU n (u63_20 C n)) : CdU W9) (.mk (argU args 0) (argU args 1) (argU args 4) (argU args 5) (argU args 18) (argU args 40) (argU args 44) (argU args 55) (argU args 76)) S fun o v S => exU o (u63r v S) (fun _ => .no) (u63r v S)
/-! (*assayer/assayerref5.parser).now -/
def u64_0 (C : CU) : CdU W2 := fun v S κ => W2.rec (motive := fun _ => RU) (fun v0 v2 => 
 uNewF 137 5 [(.n 0), (.s []), (.n 0), (.i .u64 0), (.n 0)] S fun v3 S =>
 κ .normal (.mk v0 v3) S) v
def u64_1 (C : CU) : CdU W2 := fun v S κ => W2.rec (motive := fun _ => RU) (fun v0 v2 => 
 uGet 0 v0 S fun v5 S =>
 uGet 1 v0 S fun v8 S =>
 uIad 5 v5 v8 S fun v9 S =>
 uLd (some 5) v9 S fun v10 S =>
 uSt 5 v2 v10 S fun v11 S =>
 κ .normal (.mk v0 v2) S) v
def u64r (v : W2) (S : FAW) : RU := W2.rec (motive := fun _ => RU) (fun v0 v2 => uLd (some 5) v2 S fun r2 _ => .ok r2 S) v
def u64 : Fu := fun C n args S => (seqU (u64_0 C) (seqU (u64_1 C) (retU)) : CdU W2) (.mk (argU args 0) (argU args 2)) S fun o v S => exU o (u64r v S) (fun _ => .no) (u64r v S)
/-! (*assayer/assayerref5.parser).defines -/
def u65_0 (C : CU) : CdU W6 := fun v S κ => W6.rec (motive := fun _ => RU) (fun v0 v2 v3 v4 v9 v17 => 
 κ .normal (.mk v0 (.t false) v3 v4 v9 v17) S) v
def u65_1 (C : CU) : CdU W6 := fun v S κ => W6.rec (motive := fun _ => RU) (fun v0 v2 v3 v4 v9 v17 => 
 uLitF 9 1 [(.s [])] 7 [(0, 1, (.s [116, 121, 112, 101, 100, 101, 102])), (1, 1, (.s [99, 111, 110, 115, 116])), (2, 1, (.s [101, 110, 117, 109])), (3, 1, (.s [115, 116, 114, 117, 99, 116])), (4, 1, (.s [117, 110, 105, 111, 110])), (5, 1, (.s [101, 120, 99, 101, 112, 116, 105, 111, 110])), (6, 1, (.s [115, 101, 114, 118, 105, 99, 101]))] S fun v18 S =>
 κ .normal (.mk v0 v2 v18 v4 v9 v17) S) v
def u65_2 (C : CU) : CdU W6 := fun v S κ => W6.rec (motive := fun _ => RU) (fun v0 v2 v3 v4 v9 v17 => 
 κ .normal (.mk v0 v2 v3 (.n 0) v9 v17) S) v
def u65_3 (C : CU) : CdU W6 := fun v S κ => W6.rec (motive := fun _ => RU) (fun v0 v2 v3 v4 v9 v17 => 
 uLen false v3 S fun v18 S =>
 uCmp ltN .lss v4 v18 S fun v19 S =>
 κ .normal (.mk v0 v2 v3 v4 v19 v17) S) v
def u65_4 : W6 → FV := fun v => W6.rec (motive := fun _ => FV) (fun v0 v2 v3 v4 v9 v17 => v9) v
def u65_5 (C : CU) : CdU W6 := fun v S κ => W6.rec (motive := fun _ => RU) (fun v0 v2 v3 v4 v9 v17 => 
 uIad 1 v3 v4 S fun v18 S =>
 uLd none v18 S fun v19 S =>
 uCall C 88 [v0, v19] S fun v20 S =>
 κ .normal (.mk v0 v2 v3 v4 v9 v20) S) v
def u65_6 : W6 → FV := fun v => W6.rec (motive := fun _ => FV) (fun v0 v2 v3 v4 v9 v17 => v17) v
def u65_7 (C : CU) : CdU W6 := fun v S κ => W6.rec (motive := fun _ => RU) (fun v0 v2 v3 v4 v9 v17 => 
 κ .normal (.mk v0 (.t true) v3 v4 v9 v17) S) v
def u65_8 (C : CU) : CdU W6 := fun v S κ => W6.rec (motive := fun _ => RU) (fun v0 v2 v3 v4 v9 v17 => 
 uAdd v4 (.n 1) S fun v18 S =>
 κ .normal (.mk v0 v2 v3 v18 v9 v17) S) v
def u65_9 (C : CU) (n : Nat) : CdU W6 := seqU (seqU (u65_3 C) (condU u65_4 (skipU) (exitU 0))) (seqU (blockU 1 (seqU (u65_5 C) (condU u65_6 (seqU (u65_7 C) (retU)) (skipU)))) (u65_8 C))
def u65_10 (C : CU) : CdU W6 := fun v S κ => W6.rec (motive := fun _ => RU) (fun v0 v2 v3 v4 v9 v17 => 
 κ .normal (.mk v0 (.t false) v3 v4 v9 v17) S) v
def u65r (v : W6) (S : FAW) : RU := W6.rec (motive := fun _ => RU) (fun v0 v2 v3 v4 v9 v17 => .ok v2 S) v
def u65 : Fu := fun C n args S => (seqU (u65_0 C) (seqU (u65_1 C) (seqU (seqU (u65_2 C) (blockU 0 (loopU n (u65_9 C n)))) (seqU (u65_10 C) (retU)))) : CdU W6) (.mk (argU args 0) (argU args 2) (argU args 3) (argU args 4) (argU args 9) (argU args 17)) S fun o v S => exU o (u65r v S) (fun _ => .no) (u65r v S)
/-! (*assayer/assayerref5.parser).fail -/
def u66_0 (C : CU) : CdU W3 := fun v S κ => W3.rec (motive := fun _ => RU) (fun v0 v1 v8 => 
 uGet 2 v0 S fun v11 S =>
 uEq false .eql v11 (.n 0) S fun v12 S =>
 κ .normal (.mk v0 v1 v12) S) v
def u66_1 : W3 → FV := fun v => W3.rec (motive := fun _ => FV) (fun v0 v1 v8 => v8) v
def u66_2 (C : CU) : CdU W3 := fun v S κ => W3.rec (motive := fun _ => RU) (fun v0 v1 v8 => 
 uCall C 64 [v0] S fun v9 S =>
 uFld none 4 v9 S fun v10 S =>
 uNilc v0 S fun v11 S =>
 uFad 2 v11 S fun v12 S =>
 uSt 1 v12 v1 S fun v13 S =>
 uNilc v0 S fun v14 S =>
 uFad 3 v14 S fun v15 S =>
 uSt 1 v15 v10 S fun v16 S =>
 κ .normal (.mk v0 v1 v8) S) v
def u66r (v : W3) (S : FAW) : RU := W3.rec (motive := fun _ => RU) (fun v0 v1 v8 => .ok (.u []) S) v
def u66 : Fu := fun C n args S => (seqU (u66_0 C) (condU u66_1 (u66_2 C) (skipU)) : CdU W3) (.mk (argU args 0) (argU args 1) (argU args 8)) S fun o v S => exU o (u66r v S) (fun _ => .no) (u66r v S)
/-! (*assayer/assayerref5.parser).def -/
def u67_0 (C : CU) : CdU W12 := fun v S κ => W12.rec (motive := fun _ => RU) (fun v0 v2 v3 v4 v7 v17 v32 v44 v49 v54 v59 v67 => 
 uNewF 60 12 [(.n 0), (.s []), (.s []), (.n 0), (.n 0), (.i .u64 0), (.s []), .nl, .nl, .nl, (.s []), .nl] S fun v68 S =>
 κ .normal (.mk v0 v68 (.t false) v4 v7 v17 v32 v44 v49 v54 v59 v67) S) v
def u67_1 (C : CU) : CdU W12 := fun v S κ => W12.rec (motive := fun _ => RU) (fun v0 v2 v3 v4 v7 v17 v32 v44 v49 v54 v59 v67 => 
 uBuildF [(.n 0), (.s []), (.s []), (.n 0), (.n 0), (.i .u64 0), (.s []), .nl, .nl, .nl, (.s []), .nl] [] S fun v68 S =>
 uNewF 60 12 [(.n 0), (.s []), (.s []), (.n 0), (.n 0), (.i .u64 0), (.s []), .nl, .nl, .nl, (.s []), .nl] S fun v69 S =>
 uSt 12 v69 v68 S fun v70 S =>
 κ .normal (.mk v0 v2 v3 v69 v7 v17 v32 v44 v49 v54 v59 v67) S) v
def u67_2 (C : CU) : CdU W12 := fun v S κ => W12.rec (motive := fun _ => RU) (fun v0 v2 v3 v4 v7 v17 v32 v44 v49 v54 v59 v67 => 
 uCall C 89 [v0, (.s [116, 121, 112, 101, 100, 101, 102])] S fun v68 S =>
 κ .normal (.mk v0 v2 v3 v4 v68 v17 v32 v44 v49 v54 v59 v67) S) v
def u67_3 : W12 → FV := fun v => W12.rec (motive := fun _ => FV) (fun v0 v2 v3 v4 v7 v17 v32 v44 v49 v54 v59 v67 => v7) v
def u67_4 (C : CU) : CdU W12 := fun v S κ => W12.rec (motive := fun _ => RU) (fun v0 v2 v3 v4 v7 v17 v32 v44 v49 v54 v59 v67 => 
 uCall C 93 [v0, (.n 1)] S fun v68 S =>
 uFad 0 v4 S fun v69 S =>
 uSt 1 v69 (.n 1) S fun v70 S =>
 uFad 2 v4 S fun v71 S =>
 uSt 1 v71 v68 S fun v72 S =>
 κ .normal (.mk v0 v2 v3 v4 v7 v17 v32 v44 v49 v54 v59 v67) S) v
def u67_5 (C : CU) : CdU W12 := fun v S κ => W12.rec (motive := fun _ => RU) (fun v0 v2 v3 v4 v7 v17 v32 v44 v49 v54 v59 v67 => 
 uCall C 94 [v0] S fun v68 S =>
 uFad 1 v4 S fun v69 S =>
 uSt 1 v69 v68 S fun v70 S =>
 κ .normal (.mk v0 v2 v3 v4 v7 v17 v32 v44 v49 v54 v59 v67) S) v
def u67_6 (C : CU) : CdU W12 := fun v S κ => W12.rec (motive := fun _ => RU) (fun v0 v2 v3 v4 v7 v17 v32 v44 v49 v54 v59 v67 => 
 uCall C 89 [v0, (.s [99, 111, 110, 115, 116])] S fun v68 S =>
 κ .normal (.mk v0 v2 v3 v4 v7 v68 v32 v44 v49 v54 v59 v67) S) v
def u67_7 : W12 → FV := fun v => W12.rec (motive := fun _ => FV) (fun v0 v2 v3 v4 v7 v17 v32 v44 v49 v54 v59 v67 => v17) v
def u67_8 (C : CU) : CdU W12 := fun v S κ => W12.rec (motive := fun _ => RU) (fun v0 v2 v3 v4 v7 v17 v32 v44 v49 v54 v59 v67 => 
 uCall C 93 [v0, (.n 1)] S fun v68 S =>
 uFad 0 v4 S fun v69 S =>
 uSt 1 v69 (.n 3) S fun v70 S =>
 uFad 2 v4 S fun v71 S =>
 uSt 1 v71 v68 S fun v72 S =>
 κ .normal (.mk v0 v2 v3 v4 v7 v17 v32 v44 v49 v54 v59 v67) S) v
def u67_9 (C : CU) : CdU W12 := fun v S κ => W12.rec (motive := fun _ => RU) (fun v0 v2 v3 v4 v7 v17 v32 v44 v49 v54 v59 v67 => 
 uCall C 94 [v0] S fun v68 S =>
 uFad 1 v4 S fun v69 S =>
 uSt 1 v69 v68 S fun v70 S =>
 κ .normal (.mk v0 v2 v3 v4 v7 v17 v32 v44 v49 v54 v59 v67) S) v
def u67_10 (C : CU) : CdU W12 := fun v S κ => W12.rec (motive := fun _ => RU) (fun v0 v2 v3 v4 v7 v17 v32 v44 v49 v54 v59 v67 => 
 uCall C 95 [v0, (.s [61])] S fun v68 S =>
 κ .normal (.mk v0 v2 v3 v4 v7 v17 v32 v44 v49 v54 v59 v67) S) v
def u67_11 (C : CU) : CdU W12 := fun v S κ => W12.rec (motive := fun _ => RU) (fun v0 v2 v3 v4 v7 v17 v32 v44 v49 v54 v59 v67 => 
 uCall C 96 [v0, (.n 1)] S fun v68 S =>
 uFad 3 v4 S fun v69 S =>
 uSt 5 v69 v68 S fun v70 S =>
 κ .normal (.mk v0 v2 v3 v4 v7 v17 v32 v44 v49 v54 v59 v67) S) v
def u67_12 (C : CU) : CdU W12 := fun v S κ => W12.rec (motive := fun _ => RU) (fun v0 v2 v3 v4 v7 v17 v32 v44 v49 v54 v59 v67 => 
 uCall C 89 [v0, (.s [101, 110, 117, 109])] S fun v68 S =>
 κ .normal (.mk v0 v2 v3 v4 v7 v17 v68 v44 v49 v54 v59 v67) S) v
def u67_13 : W12 → FV := fun v => W12.rec (motive := fun _ => FV) (fun v0 v2 v3 v4 v7 v17 v32 v44 v49 v54 v59 v67 => v32) v
def u67_14 (C : CU) : CdU W12 := fun v S κ => W12.rec (motive := fun _ => RU) (fun v0 v2 v3 v4 v7 v17 v32 v44 v49 v54 v59 v67 => 
 uCall C 94 [v0] S fun v68 S =>
 uFad 0 v4 S fun v69 S =>
 uSt 1 v69 (.n 2) S fun v70 S =>
 uFad 1 v4 S fun v71 S =>
 uSt 1 v71 v68 S fun v72 S =>
 κ .normal (.mk v0 v2 v3 v4 v7 v17 v32 v44 v49 v54 v59 v67) S) v
def u67_15 (C : CU) : CdU W12 := fun v S κ => W12.rec (motive := fun _ => RU) (fun v0 v2 v3 v4 v7 v17 v32 v44 v49 v54 v59 v67 => 
 uCall C 95 [v0, (.s [123])] S fun v68 S =>
 κ .normal (.mk v0 v2 v3 v4 v7 v17 v32 v44 v49 v54 v59 v67) S) v
def u67_16 (C : CU) : CdU W12 := fun v S κ => W12.rec (motive := fun _ => RU) (fun v0 v2 v3 v4 v7 v17 v32 v44 v49 v54 v59 v67 => 
 uCall C 97 [v0] S fun v68 S =>
 uFad 9 v4 S fun v69 S =>
 uSt 1 v69 v68 S fun v70 S =>
 κ .normal (.mk v0 v2 v3 v4 v7 v17 v32 v44 v49 v54 v59 v67) S) v
def u67_17 (C : CU) : CdU W12 := fun v S κ => W12.rec (motive := fun _ => RU) (fun v0 v2 v3 v4 v7 v17 v32 v44 v49 v54 v59 v67 => 
 uCall C 89 [v0, (.s [115, 116, 114, 117, 99, 116])] S fun v68 S =>
 κ .normal (.mk v0 v2 v3 v4 v7 v17 v32 v68 v49 v54 v59 v67) S) v
def u67_18 : W12 → FV := fun v => W12.rec (motive := fun _ => FV) (fun v0 v2 v3 v4 v7 v17 v32 v44 v49 v54 v59 v67 => v44) v
def u67_19 (C : CU) : CdU W12 := fun v S κ => W12.rec (motive := fun _ => RU) (fun v0 v2 v3 v4 v7 v17 v32 v44 v49 v54 v59 v67 => 
 uCall C 98 [v0, (.n 4)] S fun v68 S =>
 uSt 12 v4 v68 S fun v69 S =>
 κ .normal (.mk v0 v2 v3 v4 v7 v17 v32 v44 v49 v54 v59 v67) S) v
def u67_20 (C : CU) : CdU W12 := fun v S κ => W12.rec (motive := fun _ => RU) (fun v0 v2 v3 v4 v7 v17 v32 v44 v49 v54 v59 v67 => 
 uCall C 89 [v0, (.s [117, 110, 105, 111, 110])] S fun v68 S =>
 κ .normal (.mk v0 v2 v3 v4 v7 v17 v32 v44 v68 v54 v59 v67) S) v
def u67_21 : W12 → FV := fun v => W12.rec (motive := fun _ => FV) (fun v0 v2 v3 v4 v7 v17 v32 v44 v49 v54 v59 v67 => v49) v
def u67_22 (C : CU) : CdU W12 := fun v S κ => W12.rec (motive := fun _ => RU) (fun v0 v2 v3 v4 v7 v17 v32 v44 v49 v54 v59 v67 => 
 uCall C 98 [v0, (.n 5)] S fun v68 S =>
 uSt 12 v4 v68 S fun v69 S =>
 κ .normal (.mk v0 v2 v3 v4 v7 v17 v32 v44 v49 v54 v59 v67) S) v
def u67_23 (C : CU) : CdU W12 := fun v S κ => W12.rec (motive := fun _ => RU) (fun v0 v2 v3 v4 v7 v17 v32 v44 v49 v54 v59 v67 => 
 uCall C 89 [v0, (.s [101, 120, 99, 101, 112, 116, 105, 111, 110])] S fun v68 S =>
 κ .normal (.mk v0 v2 v3 v4 v7 v17 v32 v44 v49 v68 v59 v67) S) v
def u67_24 : W12 → FV := fun v => W12.rec (motive := fun _ => FV) (fun v0 v2 v3 v4 v7 v17 v32 v44 v49 v54 v59 v67 => v54) v
def u67_25 (C : CU) : CdU W12 := fun v S κ => W12.rec (motive := fun _ => RU) (fun v0 v2 v3 v4 v7 v17 v32 v44 v49 v54 v59 v67 => 
 uCall C 98 [v0, (.n 6)] S fun v68 S =>
 uSt 12 v4 v68 S fun v69 S =>
 κ .normal (.mk v0 v2 v3 v4 v7 v17 v32 v44 v49 v54 v59 v67) S) v
def u67_26 (C : CU) : CdU W12 := fun v S κ => W12.rec (motive := fun _ => RU) (fun v0 v2 v3 v4 v7 v17 v32 v44 v49 v54 v59 v67 => 
 uCall C 89 [v0, (.s [115, 101, 114, 118, 105, 99, 101])] S fun v68 S =>
 κ .normal (.mk v0 v2 v3 v4 v7 v17 v32 v44 v49 v54 v68 v67) S) v
def u67_27 : W12 → FV := fun v => W12.rec (motive := fun _ => FV) (fun v0 v2 v3 v4 v7 v17 v32 v44 v49 v54 v59 v67 => v59) v
def u67_28 (C : CU) : CdU W12 := fun v S κ => W12.rec (motive := fun _ => RU) (fun v0 v2 v3 v4 v7 v17 v32 v44 v49 v54 v59 v67 => 
 uCall C 94 [v0] S fun v68 S =>
 uFad 0 v4 S fun v69 S =>
 uSt 1 v69 (.n 7) S fun v70 S =>
 uFad 1 v4 S fun v71 S =>
 uSt 1 v71 v68 S fun v72 S =>
 κ .normal (.mk v0 v2 v3 v4 v7 v17 v32 v44 v49 v54 v59 v67) S) v
def u67_29 (C : CU) : CdU W12 := fun v S κ => W12.rec (motive := fun _ => RU) (fun v0 v2 v3 v4 v7 v17 v32 v44 v49 v54 v59 v67 => 
 uCall C 89 [v0, (.s [101, 120, 116, 101, 110, 100, 115])] S fun v68 S =>
 κ .normal (.mk v0 v2 v3 v4 v7 v17 v32 v44 v49 v54 v59 v68) S) v
def u67_30 : W12 → FV := fun v => W12.rec (motive := fun _ => FV) (fun v0 v2 v3 v4 v7 v17 v32 v44 v49 v54 v59 v67 => v67) v
def u67_31 (C : CU) : CdU W12 := fun v S κ => W12.rec (motive := fun _ => RU) (fun v0 v2 v3 v4 v7 v17 v32 v44 v49 v54 v59 v67 => 
 uCall C 92 [v0] S fun v68 S =>
 uFad 10 v4 S fun v69 S =>
 uSt 1 v69 v68 S fun v70 S =>
 κ .normal (.mk v0 v2 v3 v4 v7 v17 v32 v44 v49 v54 v59 v67) S) v
def u67_32 (C : CU) : CdU W12 := fun v S κ => W12.rec (motive := fun _ => RU) (fun v0 v2 v3 v4 v7 v17 v32 v44 v49 v54 v59 v67 => 
 uCall C 95 [v0, (.s [123])] S fun v68 S =>
 κ .normal (.mk v0 v2 v3 v4 v7 v17 v32 v44 v49 v54 v59 v67) S) v
def u67_33 (C : CU) : CdU W12 := fun v S κ => W12.rec (motive := fun _ => RU) (fun v0 v2 v3 v4 v7 v17 v32 v44 v49 v54 v59 v67 => 
 uCall C 99 [v0] S fun v68 S =>
 uFad 11 v4 S fun v69 S =>
 uSt 1 v69 v68 S fun v70 S =>
 κ .normal (.mk v0 v2 v3 v4 v7 v17 v32 v44 v49 v54 v59 v67) S) v
def u67_34 (C : CU) : CdU W12 := fun v S κ => W12.rec (motive := fun _ => RU) (fun v0 v2 v3 v4 v7 v17 v32 v44 v49 v54 v59 v67 => 
 uLd (some 12) v4 S fun v68 S =>
 uSt 12 v2 v68 S fun v69 S =>
 κ .normal (.mk v0 v2 (.t false) v4 v7 v17 v32 v44 v49 v54 v59 v67) S) v
def u67_35 (C : CU) : CdU W12 := fun v S κ => W12.rec (motive := fun _ => RU) (fun v0 v2 v3 v4 v7 v17 v32 v44 v49 v54 v59 v67 => 
 uCall C 100 [v0] S fun v68 S =>
 κ .normal (.mk v0 v2 v3 v4 v7 v17 v32 v44 v49 v54 v59 v67) S) v
def u67_36 (C : CU) : CdU W12 := fun v S κ => W12.rec (motive := fun _ => RU) (fun v0 v2 v3 v4 v7 v17 v32 v44 v49 v54 v59 v67 => 
 uLd (some 12) v4 S fun v68 S =>
 uSt 12 v2 v68 S fun v69 S =>
 κ .normal (.mk v0 v2 (.t true) v4 v7 v17 v32 v44 v49 v54 v59 v67) S) v
def u67r (v : W12) (S : FAW) : RU := W12.rec (motive := fun _ => RU) (fun v0 v2 v3 v4 v7 v17 v32 v44 v49 v54 v59 v67 => uLd (some 12) v2 S fun r2 _ => .ok (.u [r2, v3]) S) v
def u67 : Fu := fun C n args S => (seqU (u67_0 C) (seqU (u67_1 C) (seqU (blockU 0 (seqU (u67_2 C) (condU u67_3 (seqU (u67_4 C) (u67_5 C)) (seqU (u67_6 C) (condU u67_7 (seqU (u67_8 C) (seqU (u67_9 C) (seqU (u67_10 C) (u67_11 C)))) (seqU (u67_12 C) (condU u67_13 (seqU (u67_14 C) (seqU (u67_15 C) (u67_16 C))) (seqU (u67_17 C) (condU u67_18 (u67_19 C) (seqU (u67_20 C) (condU u67_21 (u67_22 C) (seqU (u67_23 C) (condU u67_24 (u67_25 C) (seqU (u67_26 C) (condU u67_27 (seqU (u67_28 C) (seqU (seqU (u67_29 C) (condU u67_30 (u67_31 C) (skipU))) (seqU (u67_32 C) (u67_33 C)))) (seqU (u67_34 C) (retU))))))))))))))))) (seqU (u67_35 C) (seqU (u67_36 C) (retU))))) : CdU W12) (.mk (argU args 0) (argU args 2) (argU args 3) (argU args 4) (argU args 7) (argU args 17) (argU args 32) (argU args 44) (argU args 49) (argU args 54) (argU args 59) (argU args 67)) S fun o v S => exU o (u67r v S) (fun _ => .no) (u67r v S)
/-! (*assayer/kind.cursor).one -/
def u72_0 (C : CU) : CdU W14 := fun v S κ => W14.rec (motive := fun _ => RU) (fun v0 v1 v4 v5 v6 v7 v8 v9 v23 v57 v73 v74 v75 v85 => 
 κ .normal (.mk v0 v1 (.n 0) .nl v6 v7 v8 v9 v23 v57 v73 v74 v75 v85) S) v
def u72_1 (C : CU) : CdU W14 := fun v S κ => W14.rec (motive := fun _ => RU) (fun v0 v1 v4 v5 v6 v7 v8 v9 v23 v57 v73 v74 v75 v85 => 
 uGet 1 v0 S fun v88 S =>
 κ .normal (.mk v0 v1 v4 v5 v88 v7 v8 v9 v23 v57 v73 v74 v75 v85) S) v
def u72_2 (C : CU) : CdU W14 := fun v S κ => W14.rec (motive := fun _ => RU) (fun v0 v1 v4 v5 v6 v7 v8 v9 v23 v57 v73 v74 v75 v85 => 
 uCall C 107 [v0] S fun v86 S =>
 uCall C 77 [v86] S fun v87 S =>
 κ .normal (.mk v0 v1 v87 v5 v6 v7 v8 v9 v23 v57 v73 v74 v75 v85) S) v
def u72_3 (C : CU) : CdU W14 := fun v S κ => W14.rec (motive := fun _ => RU) (fun v0 v1 v4 v5 v6 v7 v8 v9 v23 v57 v73 v74 v75 v85 => 
 uCall C 108 [v0] S fun v86 S =>
 κ .normal (.mk v0 v1 v4 v5 v6 v86 v8 v9 v23 v57 v73 v74 v75 v85) S) v
def u72_4 (C : CU) : CdU W14 := fun v S κ => W14.rec (motive := fun _ => RU) (fun v0 v1 v4 v5 v6 v7 v8 v9 v23 v57 v73 v74 v75 v85 => 
 eT v7 fun b => cn b
 (κ .normal (.mk v0 v1 v4 v5 v6 v7 v8 v9 (.t true) v57 v73 v74 v75 v85) S)
 (uEq false .eql v4 (.n 0) S fun v86 S =>
 κ .normal (.mk v0 v1 v4 v5 v6 v7 v8 v9 v86 v57 v73 v74 v75 v85) S)) v
def u72_5 : W14 → FV := fun v => W14.rec (motive := fun _ => FV) (fun v0 v1 v4 v5 v6 v7 v8 v9 v23 v57 v73 v74 v75 v85 => v23) v
def u72_6 (C : CU) : CdU W14 := fun v S κ => W14.rec (motive := fun _ => RU) (fun v0 v1 v4 v5 v6 v7 v8 v9 v23 v57 v73 v74 v75 v85 => 
 uEq true .neq v4 (.n 0) S fun v86 S =>
 uCall C 73 [v0, v86, (.n 2)] S fun v87 S =>
 κ .normal (.mk v0 v1 v4 v5 v6 v7 v8 v9 v23 v57 v73 v74 v75 v85) S) v
def u72_7 (C : CU) : CdU W14 := fun v S κ => W14.rec (motive := fun _ => RU) (fun v0 v1 v4 v5 v6 v7 v8 v9 v23 v57 v73 v74 v75 v85 => 
 uNilc v0 S fun v86 S =>
 uFad 3 v86 S fun v87 S =>
 uLd none v87 S fun v88 S =>
 uNilc v0 S fun v89 S =>
 uFad 0 v89 S fun v90 S =>
 uLd none v90 S fun v91 S =>
 uNilc v0 S fun v92 S =>
 uFad 1 v92 S fun v93 S =>
 uLd none v93 S fun v94 S =>
 uSlS v91 (some v6) (some v94) S fun v95 S =>
 uLitF 9 1 [(.s [])] 1 [(0, 1, v95)] S fun v96 S =>
 uLd none v93 S fun u _ => veqU u v94
 (uLd none v90 S fun u _ => veqU u v91
 (uLd none v87 S fun u _ => veqU u v88
 (uApp 9 1 16 v88 v96 S fun v97 S =>
 uNilc v0 S fun v98 S =>
 uFad 3 v98 S fun v99 S =>
 uSt 1 v99 v97 S fun v100 S =>
 κ .normal (.mk v0 v1 v4 v5 v6 v7 v8 v9 v23 v57 v73 v74 v75 v85) S)))) v
def u72_8 (C : CU) : CdU W14 := fun v S κ => W14.rec (motive := fun _ => RU) (fun v0 v1 v4 v5 v6 v7 v8 v9 v23 v57 v73 v74 v75 v85 => 
 κ .normal (.mk v0 v1 (.n 0) .nl v6 v7 v8 v9 v23 v57 v73 v74 v75 v85) S) v
def u72_9 (C : CU) : CdU W14 := fun v S κ => W14.rec (motive := fun _ => RU) (fun v0 v1 v4 v5 v6 v7 v8 v9 v23 v57 v73 v74 v75 v85 => 
 uCall C 109 [v4] S fun v86 S =>
 κ .normal (.mk v0 v1 v4 v5 v6 v7 v86 v9 v23 v57 v73 v74 v75 v85) S) v
def u72_10 (C : CU) : CdU W14 := fun v S κ => W14.rec (motive := fun _ => RU) (fun v0 v1 v4 v5 v6 v7 v8 v9 v23 v57 v73 v74 v75 v85 => 
 uEq false .eql v8 (.n 0) S fun v86 S =>
 eT v86 fun b => cn b
 (κ .normal (.mk v0 v1 v4 v5 v6 v7 v8 v9 v23 (.t true) v73 v74 v75 v85) S)
 (uGet 2 v0 S fun v89 S =>
 uEq true .neq v89 (.n 0) S fun v90 S =>
 κ .normal (.mk v0 v1 v4 v5 v6 v7 v8 v9 v23 v90 v73 v74 v75 v85) S)) v
def u72_11 : W14 → FV := fun v => W14.rec (motive := fun _ => FV) (fun v0 v1 v4 v5 v6 v7 v8 v9 v23 v57 v73 v74 v75 v85 => v57) v
def u72_12 (C : CU) : CdU W14 := fun v S κ => W14.rec (motive := fun _ => RU) (fun v0 v1 v4 v5 v6 v7 v8 v9 v23 v57 v73 v74 v75 v85 => 
 κ .normal (.mk v0 v1 v4 .nl v6 v7 v8 v9 v23 v57 v73 v74 v75 v85) S) v
def u72_13 (C : CU) : CdU W14 := fun v S κ => W14.rec (motive := fun _ => RU) (fun v0 v1 v4 v5 v6 v7 v8 v9 v23 v57 v73 v74 v75 v85 => 
 uCmp (fun a b => Nat.ble b a) .geq v1 (.n 12) S fun v86 S =>
 uCall C 73 [v0, v86, (.n 6)] S fun v87 S =>
 κ .normal (.mk v0 v1 v4 v5 v6 v7 v8 v9 v23 v57 v73 v74 v75 v85) S) v
def u72_14 (C : CU) : CdU W14 := fun v S κ => W14.rec (motive := fun _ => RU) (fun v0 v1 v4 v5 v6 v7 v8 v9 v23 v57 v73 v74 v75 v85 => 
 uGet 4 v0 S fun v88 S =>
 uAdd v1 (.n 1) S fun v89 S =>
 uMM true [v88, v89] S fun v90 S =>
 uNilc v0 S fun v91 S =>
 uFad 4 v91 S fun v92 S =>
 uSt 1 v92 v90 S fun v93 S =>
 κ .normal (.mk v0 v1 v4 v5 v6 v7 v8 v9 v23 v57 v73 v74 v75 v85) S) v
def u72_15 (C : CU) : CdU W14 := fun v S κ => W14.rec (motive := fun _ => RU) (fun v0 v1 v4 v5 v6 v7 v8 v9 v23 v57 v73 v74 v75 v85 => 
 κ .normal (.mk v0 v1 v4 v5 v6 v7 v8 v9 v23 v57 v8 (.n 0) v75 v85) S) v
def u72_16 (C : CU) : CdU W14 := fun v S κ => W14.rec (motive := fun _ => RU) (fun v0 v1 v4 v5 v6 v7 v8 v9 v23 v57 v73 v74 v75 v85 => 
 uCmp ltN .lss v74 v73 S fun v86 S =>
 κ .normal (.mk v0 v1 v4 v5 v6 v7 v8 v9 v23 v57 v73 v74 v86 v85) S) v
def u72_17 : W14 → FV := fun v => W14.rec (motive := fun _ => FV) (fun v0 v1 v4 v5 v6 v7 v8 v9 v23 v57 v73 v74 v75 v85 => v75) v
def u72_18 (C : CU) : CdU W14 := fun v S κ => W14.rec (motive := fun _ => RU) (fun v0 v1 v4 v5 v6 v7 v8 v9 v23 v57 v73 v74 v75 v85 => 
 κ .normal (.mk v0 v1 v4 v5 v6 v7 v8 v74 v23 v57 v73 v74 v75 v85) S) v
def u72_19 (C : CU) : CdU W14 := fun v S κ => W14.rec (motive := fun _ => RU) (fun v0 v1 v4 v5 v6 v7 v8 v9 v23 v57 v73 v74 v75 v85 => 
 uIdxS (.s [60, 44]) v9 S fun v86 S =>
 uCall C 110 [v0, v86] S fun v87 S =>
 κ .normal (.mk v0 v1 v4 v5 v6 v7 v8 v9 v23 v57 v73 v74 v75 v85) S) v
def u72_20 (C : CU) : CdU W14 := fun v S κ => W14.rec (motive := fun _ => RU) (fun v0 v1 v4 v5 v6 v7 v8 v9 v23 v57 v73 v74 v75 v85 => 
 uGet 2 v0 S fun v88 S =>
 uEq false .eql v88 (.n 0) S fun v89 S =>
 κ .normal (.mk v0 v1 v4 v5 v6 v7 v8 v9 v23 v57 v73 v74 v75 v89) S) v
def u72_21 : W14 → FV := fun v => W14.rec (motive := fun _ => FV) (fun v0 v1 v4 v5 v6 v7 v8 v9 v23 v57 v73 v74 v75 v85 => v85) v
def u72_22 (C : CU) : CdU W14 := fun v S κ => W14.rec (motive := fun _ => RU) (fun v0 v1 v4 v5 v6 v7 v8 v9 v23 v57 v73 v74 v75 v85 => 
 uAdd v1 (.n 1) S fun v86 S =>
 uCall C 72 [v0, v86] S fun v87 S =>
 κ .normal (.mk v0 v1 v4 v5 v6 v7 v8 v9 v23 v57 v73 v74 v75 v85) S) v
def u72_23 (C : CU) : CdU W14 := fun v S κ => W14.rec (motive := fun _ => RU) (fun v0 v1 v4 v5 v6 v7 v8 v9 v23 v57 v73 v74 v75 v85 => 
 uGet 1 v0 S fun v88 S =>
 uLitF 3 1 [(.n 0)] 1 [(0, 1, v88)] S fun v89 S =>
 uApp 3 1 8 v5 v89 S fun v90 S =>
 κ .normal (.mk v0 v1 v4 v90 v6 v7 v8 v9 v23 v57 v73 v74 v75 v85) S) v
def u72_24 (C : CU) : CdU W14 := fun v S κ => W14.rec (motive := fun _ => RU) (fun v0 v1 v4 v5 v6 v7 v8 v9 v23 v57 v73 v74 v75 v85 => 
 uAdd v74 (.n 1) S fun v86 S =>
 κ .normal (.mk v0 v1 v4 v5 v6 v7 v8 v9 v23 v57 v73 v86 v75 v85) S) v
def u72_25 (C : CU) (n : Nat) : CdU W14 := seqU (u72_16 C) (seqU (condU u72_17 (skipU) (exitU 0)) (seqU (blockU 1 (seqU (u72_18 C) (seqU (u72_19 C) (seqU (seqU (u72_20 C) (condU u72_21 (u72_22 C) (skipU))) (u72_23 C))))) (u72_24 C)))
def u72_26 (C : CU) : CdU W14 := fun v S κ => W14.rec (motive := fun _ => RU) (fun v0 v1 v4 v5 v6 v7 v8 v9 v23 v57 v73 v74 v75 v85 => 
 uCall C 110 [v0, (.b 62)] S fun v86 S =>
 κ .normal (.mk v0 v1 v4 v5 v6 v7 v8 v9 v23 v57 v73 v74 v75 v85) S) v
def u72_27 (C : CU) : CdU W14 := fun v S κ => W14.rec (motive := fun _ => RU) (fun v0 v1 v4 v5 v6 v7 v8 v9 v23 v57 v73 v74 v75 v85 => 
 κ .normal (.mk v0 v1 v4 v5 v6 v7 v8 v9 v23 v57 v73 v74 v75 v85) S) v
def u72r (v : W14) (S : FAW) : RU := W14.rec (motive := fun _ => RU) (fun v0 v1 v4 v5 v6 v7 v8 v9 v23 v57 v73 v74 v75 v85 => .ok (.u [v4, v5]) S) v
def u72 : Fu := fun C n args S => (seqU (u72_0 C) (seqU (u72_1 C) (seqU (u72_2 C) (seqU (seqU (u72_3 C) (seqU (u72_4 C) (condU u72_5 (seqU (u72_6 C) (seqU (u72_7 C) (seqU (u72_8 C) (retU)))) (skipU)))) (seqU (u72_9 C) (seqU (seqU (u72_10 C) (condU u72_11 (seqU (u72_12 C) (retU)) (skipU))) (seqU (u72_13 C) (seqU (u72_14 C) (seqU (seqU (u72_15 C) (blockU 0 (loopU n (u72_25 C n)))) (seqU (u72_26 C) (seqU (u72_27 C) (retU))))))))))) : CdU W14) (.mk (argU args 0) (argU args 1) (argU args 4) (argU args 5) (argU args 6) (argU args 7) (argU args 8) (argU args 9) (argU args 23) (argU args 57) (argU args 73) (argU args 74) (argU args 75) (argU args 85)) S fun o v S => exU o (u72r v S) (fun _ => .no) (u72r v S)
/-! (*assayer/kind.cursor).fails -/
def u73_0 (C : CU) : CdU W4 := fun v S κ => W4.rec (motive := fun _ => RU) (fun v0 v1 v2 v13 => 
 eT v1 fun b => cn b
 (uGet 2 v0 S fun v16 S =>
 uEq false .eql v16 (.n 0) S fun v17 S =>
 κ .normal (.mk v0 v1 v2 v17) S)
 (κ .normal (.mk v0 v1 v2 (.t false)) S)) v
def u73_1 : W4 → FV := fun v => W4.rec (motive := fun _ => FV) (fun v0 v1 v2 v13 => v13) v
def u73_2 (C : CU) : CdU W4 := fun v S κ => W4.rec (motive := fun _ => RU) (fun v0 v1 v2 v13 => 
 uNilc v0 S fun v14 S =>
 uFad 2 v14 S fun v15 S =>
 uSt 1 v15 v2 S fun v16 S =>
 κ .normal (.mk v0 v1 v2 v13) S) v
def u73r (v : W4) (S : FAW) : RU := W4.rec (motive := fun _ => RU) (fun v0 v1 v2 v13 => .ok (.u []) S) v
def u73 : Fu := fun C n args S => (seqU (u73_0 C) (condU u73_1 (u73_2 C) (skipU)) : CdU W4) (.mk (argU args 0) (argU args 1) (argU args 2) (argU args 13)) S fun o v S => exU o (u73r v S) (fun _ => .no) (u73r v S)
/-! assayer/scope.Find -/
def u74_0 (C : CU) : CdU W14 := fun v S κ => W14.rec (motive := fun _ => RU) (fun v0 v1 v2 v3 v6 v7 v8 v9 v10 v11 v12 v13 v21 v41 => 
 uBox 37 2 v0 S fun v42 S =>
 uNewF 60 12 [(.n 0), (.s []), (.s []), (.n 0), (.n 0), (.i .u64 0), (.s []), .nl, .nl, .nl, (.s []), .nl] S fun v43 S =>
 κ .normal (.mk v0 v1 v2 v42 (.s []) v43 (.s []) (.n 0) v10 v11 v12 v13 v21 v41) S) v
def u74_1 (C : CU) : CdU W14 := fun v S κ => W14.rec (motive := fun _ => RU) (fun v0 v1 v2 v3 v6 v7 v8 v9 v10 v11 v12 v13 v21 v41 => 
 uCall C 111 [v2, (.s [46])] S fun v42 S =>
 κ .normal (.mk v0 v1 v2 v3 v6 v7 v8 v9 v42 v11 v12 v13 v21 v41) S) v
def u74_2 (C : CU) : CdU W14 := fun v S κ => W14.rec (motive := fun _ => RU) (fun v0 v1 v2 v3 v6 v7 v8 v9 v10 v11 v12 v13 v21 v41 => 
 uBuildF [(.s []), (.s [])] [(0, 1, v1), (1, 1, v2)] S fun v42 S =>
 uNewF 178 2 [(.s []), (.s [])] S fun v43 S =>
 uSt 2 v43 v42 S fun v44 S =>
 κ .normal (.mk v0 v1 v2 v3 v6 v7 v8 v9 v10 v43 v12 v13 v21 v41) S) v
def u74_3 (C : CU) : CdU W14 := fun v S κ => W14.rec (motive := fun _ => RU) (fun v0 v1 v2 v3 v6 v7 v8 v9 v10 v11 v12 v13 v21 v41 => 
 uLen false v10 S fun v42 S =>
 uEq false .eql v42 (.n 2) S fun v43 S =>
 κ .normal (.mk v0 v1 v2 v3 v6 v7 v8 v9 v10 v11 v12 v13 v43 v41) S) v
def u74_4 : W14 → FV := fun v => W14.rec (motive := fun _ => FV) (fun v0 v1 v2 v3 v6 v7 v8 v9 v10 v11 v12 v13 v21 v41 => v21) v
def u74_5 (C : CU) : CdU W14 := fun v S κ => W14.rec (motive := fun _ => RU) (fun v0 v1 v2 v3 v6 v7 v8 v9 v10 v11 v12 v13 v21 v41 => 
 uIad 1 v10 (.n 0) S fun v42 S =>
 uLd none v42 S fun v43 S =>
 uIad 1 v10 (.n 1) S fun v44 S =>
 uLd none v44 S fun v45 S =>
 uBuildF [(.s []), (.s [])] [(0, 1, v43), (1, 1, v45)] S fun v46 S =>
 uSt 2 v11 v46 S fun v47 S =>
 κ .normal (.mk v0 v1 v2 v3 v6 v7 v8 v9 v10 v11 v12 v13 v21 v41) S) v
def u74_6 (C : CU) : CdU W14 := fun v S κ => W14.rec (motive := fun _ => RU) (fun v0 v1 v2 v3 v6 v7 v8 v9 v10 v11 v12 v13 v21 v41 => 
 uLd (some 2) v3 S fun v42 S =>
 uLd (some 2) v11 S fun v43 S =>
 uCall C 112 [v42, v1, v43] S fun v44 S =>
 uExt 0 v44 S fun v45 S =>
 uExt 1 v44 S fun v46 S =>
 uNewF 60 12 [(.n 0), (.s []), (.s []), (.n 0), (.n 0), (.i .u64 0), (.s []), .nl, .nl, .nl, (.s []), .nl] S fun v47 S =>
 uSt 12 v47 v45 S fun v48 S =>
 κ .normal (.mk v0 v1 v2 v3 v6 v7 v8 v9 v10 v11 v47 v46 v21 v41) S) v
def u74_7 (C : CU) : CdU W14 := fun v S κ => W14.rec (motive := fun _ => RU) (fun v0 v1 v2 v3 v6 v7 v8 v9 v10 v11 v12 v13 v21 v41 => 
 eT v13 fun b => cn b
 (uLen false v10 S fun v42 S =>
 uCmp Nat.ble .leq v42 (.n 2) S fun v43 S =>
 κ .normal (.mk v0 v1 v2 v3 v6 v7 v8 v9 v10 v11 v12 v13 v21 v43) S)
 (κ .normal (.mk v0 v1 v2 v3 v6 v7 v8 v9 v10 v11 v12 v13 v21 (.t false)) S)) v
def u74_8 : W14 → FV := fun v => W14.rec (motive := fun _ => FV) (fun v0 v1 v2 v3 v6 v7 v8 v9 v10 v11 v12 v13 v21 v41 => v41) v
def u74_9 (C : CU) : CdU W14 := fun v S κ => W14.rec (motive := fun _ => RU) (fun v0 v1 v2 v3 v6 v7 v8 v9 v10 v11 v12 v13 v21 v41 => 
 uLd (some 2) v11 S fun v42 S =>
 uLd (some 12) v12 S fun v43 S =>
 uFad 0 v11 S fun v44 S =>
 uLd none v44 S fun v45 S =>
 uCall C 113 [v42] S fun v46 S =>
 uLd none v44 S fun u _ => veqU u v45
 (uLd (some 12) v12 S fun u _ => veqU u v43
 (uSt 12 v7 v43 S fun v47 S =>
 uLd none v44 S fun u _ => veqU u v45
 (κ .normal (.mk v0 v1 v2 v3 v46 v7 v45 (.n 0) v10 v11 v12 v13 v21 v41) S)))) v
def u74_10 (C : CU) : CdU W14 := fun v S κ => W14.rec (motive := fun _ => RU) (fun v0 v1 v2 v3 v6 v7 v8 v9 v10 v11 v12 v13 v21 v41 => 
 uBuildF [(.n 0), (.s []), (.s []), (.n 0), (.n 0), (.i .u64 0), (.s []), .nl, .nl, .nl, (.s []), .nl] [] S fun v42 S =>
 uSt 12 v7 v42 S fun v43 S =>
 κ .normal (.mk v0 v1 v2 v3 (.s []) v7 (.s []) (.n 7) v10 v11 v12 v13 v21 v41) S) v
def u74r (v : W14) (S : FAW) : RU := W14.rec (motive := fun _ => RU) (fun v0 v1 v2 v3 v6 v7 v8 v9 v10 v11 v12 v13 v21 v41 => uLd (some 12) v7 S fun r7 _ => .ok (.u [v6, r7, v8, v9]) S) v
def u74 : Fu := fun C n args S => (seqU (u74_0 C) (seqU (u74_1 C) (seqU (u74_2 C) (seqU (seqU (u74_3 C) (condU u74_4 (u74_5 C) (skipU))) (seqU (seqU (u74_6 C) (seqU (u74_7 C) (condU u74_8 (seqU (u74_9 C) (retU)) (skipU)))) (seqU (u74_10 C) (retU)))))) : CdU W14) (.mk (argU args 0) (argU args 1) (argU args 2) (argU args 3) (argU args 6) (argU args 7) (argU args 8) (argU args 9) (argU args 10) (argU args 11) (argU args 12) (argU args 13) (argU args 21) (argU args 41)) S fun o v S => exU o (u74r v S) (fun _ => .no) (u74r v S)
/-! slices.IndexFunc[[]string,string] -/
def u75_0 (C : CU) : CdU W8 := fun v S κ => W8.rec (motive := fun _ => RU) (fun v0 v1 v4 v5 v7 v8 v9 v16 => 
 κ .normal (.mk v0 v1 (.n 0) v5 v7 v8 v9 v16) S) v
def u75_1 (C : CU) : CdU W8 := fun v S κ => W8.rec (motive := fun _ => RU) (fun v0 v1 v4 v5 v7 v8 v9 v16 => 
 uLen false v0 S fun v17 S =>
 κ .normal (.mk v0 v1 v4 v5 v17 (.n 0) v9 v16) S) v
def u75_2 (C : CU) : CdU W8 := fun v S κ => W8.rec (motive := fun _ => RU) (fun v0 v1 v4 v5 v7 v8 v9 v16 => 
 uCmp ltN .lss v8 v7 S fun v17 S =>
 κ .normal (.mk v0 v1 v4 v5 v7 v8 v17 v16) S) v
def u75_3 : W8 → FV := fun v => W8.rec (motive := fun _ => FV) (fun v0 v1 v4 v5 v7 v8 v9 v16 => v9) v
def u75_4 (C : CU) : CdU W8 := fun v S κ => W8.rec (motive := fun _ => RU) (fun v0 v1 v4 v5 v7 v8 v9 v16 => 
 κ .normal (.mk v0 v1 v4 v8 v7 v8 v9 v16) S) v
def u75_5 (C : CU) : CdU W8 := fun v S κ => W8.rec (motive := fun _ => RU) (fun v0 v1 v4 v5 v7 v8 v9 v16 => 
 uIad 1 v0 v5 S fun v17 S =>
 uLd none v17 S fun v18 S =>
 uCallV C v1 [v18] S fun v19 S =>
 κ .normal (.mk v0 v1 v4 v5 v7 v8 v9 v19) S) v
def u75_6 : W8 → FV := fun v => W8.rec (motive := fun _ => FV) (fun v0 v1 v4 v5 v7 v8 v9 v16 => v16) v
def u75_7 (C : CU) : CdU W8 := fun v S κ => W8.rec (motive := fun _ => RU) (fun v0 v1 v4 v5 v7 v8 v9 v16 => 
 κ .normal (.mk v0 v1 v5 v5 v7 v8 v9 v16) S) v
def u75_8 (C : CU) : CdU W8 := fun v S κ => W8.rec (motive := fun _ => RU) (fun v0 v1 v4 v5 v7 v8 v9 v16 => 
 uAdd v8 (.n 1) S fun v17 S =>
 κ .normal (.mk v0 v1 v4 v5 v7 v17 v9 v16) S) v
def u75_9 (C : CU) (n : Nat) : CdU W8 := seqU (u75_2 C) (seqU (condU u75_3 (skipU) (exitU 0)) (seqU (blockU 1 (seqU (u75_4 C) (seqU (u75_5 C) (condU u75_6 (seqU (u75_7 C) (retU)) (skipU))))) (u75_8 C)))
def u75_10 (C : CU) : CdU W8 := fun v S κ => W8.rec (motive := fun _ => RU) (fun v0 v1 v4 v5 v7 v8 v9 v16 => 
 κ .normal (.mk v0 v1 (.i .i64 (-1)) v5 v7 v8 v9 v16) S) v
def u75r (v : W8) (S : FAW) : RU := W8.rec (motive := fun _ => RU) (fun v0 v1 v4 v5 v7 v8 v9 v16 => .ok v4 S) v
def u75 : Fu := fun C n args S => (seqU (u75_0 C) (seqU (seqU (u75_1 C) (blockU 0 (loopU n (u75_9 C n)))) (seqU (u75_10 C) (retU))) : CdU W8) (.mk (argU args 0) (argU args 1) (argU args 4) (argU args 5) (argU args 7) (argU args 8) (argU args 9) (argU args 16)) S fun o v S => exU o (u75r v S) (fun _ => .no) (u75r v S)
/-! assayer/kind.Show$1 -/
def u76_0 (C : CU) : CdU W3 := fun v S κ => W3.rec (motive := fun _ => RU) (fun v0 v1 v3 => 
 κ .normal (.mk v0 v1 (.t false)) S) v
def u76_1 (C : CU) : CdU W3 := fun v S κ => W3.rec (motive := fun _ => RU) (fun v0 v1 v3 => 
 uLd none v1 S fun v4 S =>
 uCall C 77 [v0] S fun v5 S =>
 uEq false .eql v5 v4 S fun v6 S =>
 uLd none v1 S fun u _ => veqU u v4
 (κ .normal (.mk v0 v1 v6) S)) v
def u76r (v : W3) (S : FAW) : RU := W3.rec (motive := fun _ => RU) (fun v0 v1 v3 => .ok v3 S) v
def u76 : Fu := fun C n args S => (seqU (u76_0 C) (seqU (u76_1 C) (retU)) : CdU W3) (.mk (argU args 0) (argU args 1) (argU args 3)) S fun o v S => exU o (u76r v S) (fun _ => .no) (u76r v S)
/-! assayer/kind.word -/
def u77_0 (C : CU) : CdU W14 := fun v S κ => W14.rec (motive := fun _ => RU) (fun v0 v2 v3 v4 v6 v8 v10 v12 v14 v16 v18 v20 v22 v24 => 
 κ .normal (.mk v0 (.n 0) v3 v4 v6 v8 v10 v12 v14 v16 v18 v20 v22 v24) S) v
def u77_1 (C : CU) : CdU W14 := fun v S κ => W14.rec (motive := fun _ => RU) (fun v0 v2 v3 v4 v6 v8 v10 v12 v14 v16 v18 v20 v22 v24 => 
 κ .normal (.mk v0 v2 v0 v4 v6 v8 v10 v12 v14 v16 v18 v20 v22 v24) S) v
def u77_2 (C : CU) : CdU W14 := fun v S κ => W14.rec (motive := fun _ => RU) (fun v0 v2 v3 v4 v6 v8 v10 v12 v14 v16 v18 v20 v22 v24 => 
 uEq false .eql v3 (.s [98, 111, 111, 108]) S fun v25 S =>
 κ .normal (.mk v0 v2 v3 v25 v6 v8 v10 v12 v14 v16 v18 v20 v22 v24) S) v
def u77_3 : W14 → FV := fun v => W14.rec (motive := fun _ => FV) (fun v0 v2 v3 v4 v6 v8 v10 v12 v14 v16 v18 v20 v22 v24 => v4) v
def u77_4 (C : CU) : CdU W14 := fun v S κ => W14.rec (motive := fun _ => RU) (fun v0 v2 v3 v4 v6 v8 v10 v12 v14 v16 v18 v20 v22 v24 => 
 κ .normal (.mk v0 (.n 2) v3 v4 v6 v8 v10 v12 v14 v16 v18 v20 v22 v24) S) v
def u77_5 (C : CU) : CdU W14 := fun v S κ => W14.rec (motive := fun _ => RU) (fun v0 v2 v3 v4 v6 v8 v10 v12 v14 v16 v18 v20 v22 v24 => 
 uEq false .eql v3 (.s [105, 56]) S fun v25 S =>
 κ .normal (.mk v0 v2 v3 v4 v25 v8 v10 v12 v14 v16 v18 v20 v22 v24) S) v
def u77_6 : W14 → FV := fun v => W14.rec (motive := fun _ => FV) (fun v0 v2 v3 v4 v6 v8 v10 v12 v14 v16 v18 v20 v22 v24 => v6) v
def u77_7 (C : CU) : CdU W14 := fun v S κ => W14.rec (motive := fun _ => RU) (fun v0 v2 v3 v4 v6 v8 v10 v12 v14 v16 v18 v20 v22 v24 => 
 κ .normal (.mk v0 (.n 3) v3 v4 v6 v8 v10 v12 v14 v16 v18 v20 v22 v24) S) v
def u77_8 (C : CU) : CdU W14 := fun v S κ => W14.rec (motive := fun _ => RU) (fun v0 v2 v3 v4 v6 v8 v10 v12 v14 v16 v18 v20 v22 v24 => 
 uEq false .eql v3 (.s [105, 49, 54]) S fun v25 S =>
 κ .normal (.mk v0 v2 v3 v4 v6 v25 v10 v12 v14 v16 v18 v20 v22 v24) S) v
def u77_9 : W14 → FV := fun v => W14.rec (motive := fun _ => FV) (fun v0 v2 v3 v4 v6 v8 v10 v12 v14 v16 v18 v20 v22 v24 => v8) v
def u77_10 (C : CU) : CdU W14 := fun v S κ => W14.rec (motive := fun _ => RU) (fun v0 v2 v3 v4 v6 v8 v10 v12 v14 v16 v18 v20 v22 v24 => 
 κ .normal (.mk v0 (.n 6) v3 v4 v6 v8 v10 v12 v14 v16 v18 v20 v22 v24) S) v
def u77_11 (C : CU) : CdU W14 := fun v S κ => W14.rec (motive := fun _ => RU) (fun v0 v2 v3 v4 v6 v8 v10 v12 v14 v16 v18 v20 v22 v24 => 
 uEq false .eql v3 (.s [105, 51, 50]) S fun v25 S =>
 κ .normal (.mk v0 v2 v3 v4 v6 v8 v25 v12 v14 v16 v18 v20 v22 v24) S) v
def u77_12 : W14 → FV := fun v => W14.rec (motive := fun _ => FV) (fun v0 v2 v3 v4 v6 v8 v10 v12 v14 v16 v18 v20 v22 v24 => v10) v
def u77_13 (C : CU) : CdU W14 := fun v S κ => W14.rec (motive := fun _ => RU) (fun v0 v2 v3 v4 v6 v8 v10 v12 v14 v16 v18 v20 v22 v24 => 
 κ .normal (.mk v0 (.n 8) v3 v4 v6 v8 v10 v12 v14 v16 v18 v20 v22 v24) S) v
def u77_14 (C : CU) : CdU W14 := fun v S κ => W14.rec (motive := fun _ => RU) (fun v0 v2 v3 v4 v6 v8 v10 v12 v14 v16 v18 v20 v22 v24 => 
 uEq false .eql v3 (.s [105, 54, 52]) S fun v25 S =>
 κ .normal (.mk v0 v2 v3 v4 v6 v8 v10 v25 v14 v16 v18 v20 v22 v24) S) v
def u77_15 : W14 → FV := fun v => W14.rec (motive := fun _ => FV) (fun v0 v2 v3 v4 v6 v8 v10 v12 v14 v16 v18 v20 v22 v24 => v12) v
def u77_16 (C : CU) : CdU W14 := fun v S κ => W14.rec (motive := fun _ => RU) (fun v0 v2 v3 v4 v6 v8 v10 v12 v14 v16 v18 v20 v22 v24 => 
 κ .normal (.mk v0 (.n 10) v3 v4 v6 v8 v10 v12 v14 v16 v18 v20 v22 v24) S) v
def u77_17 (C : CU) : CdU W14 := fun v S κ => W14.rec (motive := fun _ => RU) (fun v0 v2 v3 v4 v6 v8 v10 v12 v14 v16 v18 v20 v22 v24 => 
 uEq false .eql v3 (.s [100, 111, 117, 98, 108, 101]) S fun v25 S =>
 κ .normal (.mk v0 v2 v3 v4 v6 v8 v10 v12 v25 v16 v18 v20 v22 v24) S) v
def u77_18 : W14 → FV := fun v => W14.rec (motive := fun _ => FV) (fun v0 v2 v3 v4 v6 v8 v10 v12 v14 v16 v18 v20 v22 v24 => v14) v
def u77_19 (C : CU) : CdU W14 := fun v S κ => W14.rec (motive := fun _ => RU) (fun v0 v2 v3 v4 v6 v8 v10 v12 v14 v16 v18 v20 v22 v24 => 
 κ .normal (.mk v0 (.n 4) v3 v4 v6 v8 v10 v12 v14 v16 v18 v20 v22 v24) S) v
def u77_20 (C : CU) : CdU W14 := fun v S κ => W14.rec (motive := fun _ => RU) (fun v0 v2 v3 v4 v6 v8 v10 v12 v14 v16 v18 v20 v22 v24 => 
 uEq false .eql v3 (.s [115, 116, 114, 105, 110, 103]) S fun v25 S =>
 κ .normal (.mk v0 v2 v3 v4 v6 v8 v10 v12 v14 v25 v18 v20 v22 v24) S) v
def u77_21 : W14 → FV := fun v => W14.rec (motive := fun _ => FV) (fun v0 v2 v3 v4 v6 v8 v10 v12 v14 v16 v18 v20 v22 v24 => v16) v
def u77_22 (C : CU) : CdU W14 := fun v S κ => W14.rec (motive := fun _ => RU) (fun v0 v2 v3 v4 v6 v8 v10 v12 v14 v16 v18 v20 v22 v24 => 
 κ .normal (.mk v0 (.n 11) v3 v4 v6 v8 v10 v12 v14 v16 v18 v20 v22 v24) S) v
def u77_23 (C : CU) : CdU W14 := fun v S κ => W14.rec (motive := fun _ => RU) (fun v0 v2 v3 v4 v6 v8 v10 v12 v14 v16 v18 v20 v22 v24 => 
 uEq false .eql v3 (.s [98, 105, 110, 97, 114, 121]) S fun v25 S =>
 κ .normal (.mk v0 v2 v3 v4 v6 v8 v10 v12 v14 v16 v25 v20 v22 v24) S) v
def u77_24 : W14 → FV := fun v => W14.rec (motive := fun _ => FV) (fun v0 v2 v3 v4 v6 v8 v10 v12 v14 v16 v18 v20 v22 v24 => v18) v
def u77_25 (C : CU) : CdU W14 := fun v S κ => W14.rec (motive := fun _ => RU) (fun v0 v2 v3 v4 v6 v8 v10 v12 v14 v16 v18 v20 v22 v24 => 
 κ .normal (.mk v0 (.n 16) v3 v4 v6 v8 v10 v12 v14 v16 v18 v20 v22 v24) S) v
def u77_26 (C : CU) : CdU W14 := fun v S κ => W14.rec (motive := fun _ => RU) (fun v0 v2 v3 v4 v6 v8 v10 v12 v14 v16 v18 v20 v22 v24 => 
 uEq false .eql v3 (.s [108, 105, 115, 116]) S fun v25 S =>
 κ .normal (.mk v0 v2 v3 v4 v6 v8 v10 v12 v14 v16 v18 v25 v22 v24) S) v
def u77_27 : W14 → FV := fun v => W14.rec (motive := fun _ => FV) (fun v0 v2 v3 v4 v6 v8 v10 v12 v14 v16 v18 v20 v22 v24 => v20) v
def u77_28 (C : CU) : CdU W14 := fun v S κ => W14.rec (motive := fun _ => RU) (fun v0 v2 v3 v4 v6 v8 v10 v12 v14 v16 v18 v20 v22 v24 => 
 κ .normal (.mk v0 (.n 15) v3 v4 v6 v8 v10 v12 v14 v16 v18 v20 v22 v24) S) v
def u77_29 (C : CU) : CdU W14 := fun v S κ => W14.rec (motive := fun _ => RU) (fun v0 v2 v3 v4 v6 v8 v10 v12 v14 v16 v18 v20 v22 v24 => 
 uEq false .eql v3 (.s [115, 101, 116]) S fun v25 S =>
 κ .normal (.mk v0 v2 v3 v4 v6 v8 v10 v12 v14 v16 v18 v20 v25 v24) S) v
def u77_30 : W14 → FV := fun v => W14.rec (motive := fun _ => FV) (fun v0 v2 v3 v4 v6 v8 v10 v12 v14 v16 v18 v20 v22 v24 => v22) v
def u77_31 (C : CU) : CdU W14 := fun v S κ => W14.rec (motive := fun _ => RU) (fun v0 v2 v3 v4 v6 v8 v10 v12 v14 v16 v18 v20 v22 v24 => 
 κ .normal (.mk v0 (.n 14) v3 v4 v6 v8 v10 v12 v14 v16 v18 v20 v22 v24) S) v
def u77_32 (C : CU) : CdU W14 := fun v S κ => W14.rec (motive := fun _ => RU) (fun v0 v2 v3 v4 v6 v8 v10 v12 v14 v16 v18 v20 v22 v24 => 
 uEq false .eql v3 (.s [109, 97, 112]) S fun v25 S =>
 κ .normal (.mk v0 v2 v3 v4 v6 v8 v10 v12 v14 v16 v18 v20 v22 v25) S) v
def u77_33 : W14 → FV := fun v => W14.rec (motive := fun _ => FV) (fun v0 v2 v3 v4 v6 v8 v10 v12 v14 v16 v18 v20 v22 v24 => v24) v
def u77_34 (C : CU) : CdU W14 := fun v S κ => W14.rec (motive := fun _ => RU) (fun v0 v2 v3 v4 v6 v8 v10 v12 v14 v16 v18 v20 v22 v24 => 
 κ .normal (.mk v0 (.n 13) v3 v4 v6 v8 v10 v12 v14 v16 v18 v20 v22 v24) S) v
def u77_35 (C : CU) : CdU W14 := fun v S κ => W14.rec (motive := fun _ => RU) (fun v0 v2 v3 v4 v6 v8 v10 v12 v14 v16 v18 v20 v22 v24 => 
 κ .normal (.mk v0 (.n 0) v3 v4 v6 v8 v10 v12 v14 v16 v18 v20 v22 v24) S) v
def u77r (v : W14) (S : FAW) : RU := W14.rec (motive := fun _ => RU) (fun v0 v2 v3 v4 v6 v8 v10 v12 v14 v16 v18 v20 v22 v24 => .ok v2 S) v
def u77 : Fu := fun C n args S => (seqU (u77_0 C) (seqU (seqU (u77_1 C) (blockU 0 (seqU (u77_2 C) (condU u77_3 (seqU (u77_4 C) (retU)) (seqU (u77_5 C) (condU u77_6 (seqU (u77_7 C) (retU)) (seqU (u77_8 C) (condU u77_9 (seqU (u77_10 C) (retU)) (seqU (u77_11 C) (condU u77_12 (seqU (u77_13 C) (retU)) (seqU (u77_14 C) (condU u77_15 (seqU (u77_16 C) (retU)) (seqU (u77_17 C) (condU u77_18 (seqU (u77_19 C) (retU)) (seqU (u77_20 C) (condU u77_21 (seqU (u77_22 C) (retU)) (seqU (u77_23 C) (condU u77_24 (seqU (u77_25 C) (retU)) (seqU (u77_26 C) (condU u77_27 (seqU (u77_28 C) (retU)) (seqU (u77_29 C) (condU u77_30 (seqU (u77_31 C) (retU)) (seqU (u77_32 C) (condU u77_33 (seqU (u77_34 C) (retU)) (skipU))))))))))))))))))))))))) (seqU (u77_35 C) (retU))) : CdU W14) (.mk (argU args 0) (argU args 2) (argU args 3) (argU args 4) (argU args 6) (argU args 8) (argU args 10) (argU args 12) (argU args 14) (argU args 16) (argU args 18) (argU args 20) (argU args 22) (argU args 24)) S fun o v S => exU o (u77r v S) (fun _ => .no) (u77r v S)
/-! assayer/assayerref5.word -/
def u79_0 (C : CU) : CdU W6 := fun v S κ => W6.rec (motive := fun _ => RU) (fun v0 v2 v3 v4 v9 v18 => 
 κ .normal (.mk v0 (.s []) v3 v4 v9 v18) S) v
def u79_1 (C : CU) : CdU W6 := fun v S κ => W6.rec (motive := fun _ => RU) (fun v0 v2 v3 v4 v9 v18 => 
 uLitF 9 1 [(.s [])] 11 [(0, 1, (.s [98, 111, 111, 108])), (1, 1, (.s [105, 56])), (2, 1, (.s [105, 49, 54])), (3, 1, (.s [105, 51, 50])), (4, 1, (.s [105, 54, 52])), (5, 1, (.s [100, 111, 117, 98, 108, 101])), (6, 1, (.s [115, 116, 114, 105, 110, 103])), (7, 1, (.s [98, 105, 110, 97, 114, 121])), (8, 1, (.s [108, 105, 115, 116])), (9, 1, (.s [115, 101, 116])), (10, 1, (.s [109, 97, 112]))] S fun v19 S =>
 κ .normal (.mk v0 v2 v19 v4 v9 v18) S) v
def u79_2 (C : CU) : CdU W6 := fun v S κ => W6.rec (motive := fun _ => RU) (fun v0 v2 v3 v4 v9 v18 => 
 κ .normal (.mk v0 v2 v3 (.n 0) v9 v18) S) v
def u79_3 (C : CU) : CdU W6 := fun v S κ => W6.rec (motive := fun _ => RU) (fun v0 v2 v3 v4 v9 v18 => 
 uLen false v3 S fun v19 S =>
 uCmp ltN .lss v4 v19 S fun v20 S =>
 κ .normal (.mk v0 v2 v3 v4 v20 v18) S) v
def u79_4 : W6 → FV := fun v => W6.rec (motive := fun _ => FV) (fun v0 v2 v3 v4 v9 v18 => v9) v
def u79_5 (C : CU) : CdU W6 := fun v S κ => W6.rec (motive := fun _ => RU) (fun v0 v2 v3 v4 v9 v18 => 
 uIad 1 v3 v4 S fun v19 S =>
 uLd none v19 S fun v20 S =>
 uCall C 61 [v20] S fun v21 S =>
 uEq false .eql v21 v0 S fun v22 S =>
 κ .normal (.mk v0 v2 v3 v4 v9 v22) S) v
def u79_6 : W6 → FV := fun v => W6.rec (motive := fun _ => FV) (fun v0 v2 v3 v4 v9 v18 => v18) v
def u79_7 (C : CU) : CdU W6 := fun v S κ => W6.rec (motive := fun _ => RU) (fun v0 v2 v3 v4 v9 v18 => 
 uIad 1 v3 v4 S fun v19 S =>
 uLd none v19 S fun v20 S =>
 κ .normal (.mk v0 v20 v3 v4 v9 v18) S) v
def u79_8 (C : CU) : CdU W6 := fun v S κ => W6.rec (motive := fun _ => RU) (fun v0 v2 v3 v4 v9 v18 => 
 uAdd v4 (.n 1) S fun v19 S =>
 κ .normal (.mk v0 v2 v3 v19 v9 v18) S) v
def u79_9 (C : CU) (n : Nat) : CdU W6 := seqU (seqU (u79_3 C) (condU u79_4 (skipU) (exitU 0))) (seqU (blockU 1 (seqU (u79_5 C) (condU u79_6 (seqU (u79_7 C) (retU)) (skipU)))) (u79_8 C))
def u79_10 (C : CU) : CdU W6 := fun v S κ => W6.rec (motive := fun _ => RU) (fun v0 v2 v3 v4 v9 v18 => 
 κ .normal (.mk v0 (.s []) v3 v4 v9 v18) S) v
def u79r (v : W6) (S : FAW) : RU := W6.rec (motive := fun _ => RU) (fun v0 v2 v3 v4 v9 v18 => .ok v2 S) v
def u79 : Fu := fun C n args S => (seqU (u79_0 C) (seqU (u79_1 C) (seqU (seqU (u79_2 C) (blockU 0 (loopU n (u79_9 C n)))) (seqU (u79_10 C) (retU)))) : CdU W6) (.mk (argU args 0) (argU args 2) (argU args 3) (argU args 4) (argU args 9) (argU args 18)) S fun o v S => exU o (u79r v S) (fun _ => .no) (u79r v S)
/-! internal/stringslite.IndexByte -/
def u80_0 (C : CU) : CdU W3 := fun v S κ => W3.rec (motive := fun _ => RU) (fun v0 v1 v4 => 
 κ .normal (.mk v0 v1 (.n 0)) S) v
def u80_1 (C : CU) : CdU W3 := fun v S κ => W3.rec (motive := fun _ => RU) (fun v0 v1 v4 => 
 uCall C 115 [v0, v1] S fun v5 S =>
 κ .normal (.mk v0 v1 v5) S) v
def u80r (v : W3) (S : FAW) : RU := W3.rec (motive := fun _ => RU) (fun v0 v1 v4 => .ok v4 S) v
def u80 : Fu := fun C n args S => (seqU (u80_0 C) (seqU (u80_1 C) (retU)) : CdU W3) (.mk (argU args 0) (argU args 1) (argU args 4)) S fun o v S => exU o (u80r v S) (fun _ => .no) (u80r v S)
/-! slices.Index[[]int,int] -/
def u81_0 (C : CU) : CdU W8 := fun v S κ => W8.rec (motive := fun _ => RU) (fun v0 v1 v4 v5 v7 v8 v9 v16 => 
 κ .normal (.mk v0 v1 (.n 0) v5 v7 v8 v9 v16) S) v
def u81_1 (C : CU) : CdU W8 := fun v S κ => W8.rec (motive := fun _ => RU) (fun v0 v1 v4 v5 v7 v8 v9 v16 => 
 uLen false v0 S fun v17 S =>
 κ .normal (.mk v0 v1 v4 v5 v17 (.n 0) v9 v16) S) v
def u81_2 (C : CU) : CdU W8 := fun v S κ => W8.rec (motive := fun _ => RU) (fun v0 v1 v4 v5 v7 v8 v9 v16 => 
 uCmp ltN .lss v8 v7 S fun v17 S =>
 κ .normal (.mk v0 v1 v4 v5 v7 v8 v17 v16) S) v
def u81_3 : W8 → FV := fun v => W8.rec (motive := fun _ => FV) (fun v0 v1 v4 v5 v7 v8 v9 v16 => v9) v
def u81_4 (C : CU) : CdU W8 := fun v S κ => W8.rec (motive := fun _ => RU) (fun v0 v1 v4 v5 v7 v8 v9 v16 => 
 κ .normal (.mk v0 v1 v4 v8 v7 v8 v9 v16) S) v
def u81_5 (C : CU) : CdU W8 := fun v S κ => W8.rec (motive := fun _ => RU) (fun v0 v1 v4 v5 v7 v8 v9 v16 => 
 uIad 1 v0 v5 S fun v17 S =>
 uLd none v17 S fun v18 S =>
 uEq false .eql v1 v18 S fun v19 S =>
 κ .normal (.mk v0 v1 v4 v5 v7 v8 v9 v19) S) v
def u81_6 : W8 → FV := fun v => W8.rec (motive := fun _ => FV) (fun v0 v1 v4 v5 v7 v8 v9 v16 => v16) v
def u81_7 (C : CU) : CdU W8 := fun v S κ => W8.rec (motive := fun _ => RU) (fun v0 v1 v4 v5 v7 v8 v9 v16 => 
 κ .normal (.mk v0 v1 v5 v5 v7 v8 v9 v16) S) v
def u81_8 (C : CU) : CdU W8 := fun v S κ => W8.rec (motive := fun _ => RU) (fun v0 v1 v4 v5 v7 v8 v9 v16 => 
 uAdd v8 (.n 1) S fun v17 S =>
 κ .normal (.mk v0 v1 v4 v5 v7 v17 v9 v16) S) v
def u81_9 (C : CU) (n : Nat) : CdU W8 := seqU (u81_2 C) (seqU (condU u81_3 (skipU) (exitU 0)) (seqU (blockU 1 (seqU (u81_4 C) (seqU (u81_5 C) (condU u81_6 (seqU (u81_7 C) (retU)) (skipU))))) (u81_8 C)))
def u81_10 (C : CU) : CdU W8 := fun v S κ => W8.rec (motive := fun _ => RU) (fun v0 v1 v4 v5 v7 v8 v9 v16 => 
 κ .normal (.mk v0 v1 (.i .i64 (-1)) v5 v7 v8 v9 v16) S) v
def u81r (v : W8) (S : FAW) : RU := W8.rec (motive := fun _ => RU) (fun v0 v1 v4 v5 v7 v8 v9 v16 => .ok v4 S) v
def u81 : Fu := fun C n args S => (seqU (u81_0 C) (seqU (seqU (u81_1 C) (blockU 0 (loopU n (u81_9 C n)))) (seqU (u81_10 C) (retU))) : CdU W8) (.mk (argU args 0) (argU args 1) (argU args 4) (argU args 5) (argU args 7) (argU args 8) (argU args 9) (argU args 16)) S fun o v S => exU o (u81r v S) (fun _ => .no) (u81r v S)
/-! internal/stringslite.Index -/
def u82_0 (C : CU) : CdU W24 := fun v S κ => W24.rec (motive := fun _ => RU) (fun v0 v1 v4 v5 v6 v7 v8 v9 v10 v11 v12 v13 v16 v24 v31 v36 v59 v64 v73 v93 v107 v114 v132 v139 => 
 κ .normal (.mk v0 v1 (.n 0) v5 v6 v7 v8 v9 v10 v11 v12 v13 v16 v24 v31 v36 v59 v64 v73 v93 v107 v114 v132 v139) S) v
def u82_1 (C : CU) : CdU W24 := fun v S κ => W24.rec (motive := fun _ => RU) (fun v0 v1 v4 v5 v6 v7 v8 v9 v10 v11 v12 v13 v16 v24 v31 v36 v59 v64 v73 v93 v107 v114 v132 v139 => 
 uLen true v1 S fun v140 S =>
 κ .normal (.mk v0 v1 v4 v140 v6 v7 v8 v9 v10 v11 v12 v13 v16 v24 v31 v36 v59 v64 v73 v93 v107 v114 v132 v139) S) v
def u82_2 (C : CU) : CdU W24 := fun v S κ => W24.rec (motive := fun _ => RU) (fun v0 v1 v4 v5 v6 v7 v8 v9 v10 v11 v12 v13 v16 v24 v31 v36 v59 v64 v73 v93 v107 v114 v132 v139 => 
 uEq false .eql v5 (.n 0) S fun v140 S =>
 eT v140 fun b => cn b
 (κ .normal (.mk v0 v1 v4 v5 v6 v7 v8 v9 v10 v11 v12 v13 (.t true) v24 v31 v36 v59 v64 v73 v93 v107 v114 v132 v139) S)
 (uEq false .eql v1 v0 S fun v141 S =>
 κ .normal (.mk v0 v1 v4 v5 v6 v7 v8 v9 v10 v11 v12 v13 v141 v24 v31 v36 v59 v64 v73 v93 v107 v114 v132 v139) S)) v
def u82_3 : W24 → FV := fun v => W24.rec (motive := fun _ => FV) (fun v0 v1 v4 v5 v6 v7 v8 v9 v10 v11 v12 v13 v16 v24 v31 v36 v59 v64 v73 v93 v107 v114 v132 v139 => v16) v
def u82_4 (C : CU) : CdU W24 := fun v S κ => W24.rec (motive := fun _ => RU) (fun v0 v1 v4 v5 v6 v7 v8 v9 v10 v11 v12 v13 v16 v24 v31 v36 v59 v64 v73 v93 v107 v114 v132 v139 => 
 κ .normal (.mk v0 v1 (.n 0) v5 v6 v7 v8 v9 v10 v11 v12 v13 v16 v24 v31 v36 v59 v64 v73 v93 v107 v114 v132 v139) S) v
def u82_5 (C : CU) : CdU W24 := fun v S κ => W24.rec (motive := fun _ => RU) (fun v0 v1 v4 v5 v6 v7 v8 v9 v10 v11 v12 v13 v16 v24 v31 v36 v59 v64 v73 v93 v107 v114 v132 v139 => 
 uEq false .eql v5 (.n 1) S fun v140 S =>
 κ .normal (.mk v0 v1 v4 v5 v6 v7 v8 v9 v10 v11 v12 v13 v16 v140 v31 v36 v59 v64 v73 v93 v107 v114 v132 v139) S) v
def u82_6 : W24 → FV := fun v => W24.rec (motive := fun _ => FV) (fun v0 v1 v4 v5 v6 v7 v8 v9 v10 v11 v12 v13 v16 v24 v31 v36 v59 v64 v73 v93 v107 v114 v132 v139 => v24) v
def u82_7 (C : CU) : CdU W24 := fun v S κ => W24.rec (motive := fun _ => RU) (fun v0 v1 v4 v5 v6 v7 v8 v9 v10 v11 v12 v13 v16 v24 v31 v36 v59 v64 v73 v93 v107 v114 v132 v139 => 
 uIdxS v1 (.n 0) S fun v140 S =>
 uCall C 80 [v0, v140] S fun v141 S =>
 κ .normal (.mk v0 v1 v141 v5 v6 v7 v8 v9 v10 v11 v12 v13 v16 v24 v31 v36 v59 v64 v73 v93 v107 v114 v132 v139) S) v
def u82_8 (C : CU) : CdU W24 := fun v S κ => W24.rec (motive := fun _ => RU) (fun v0 v1 v4 v5 v6 v7 v8 v9 v10 v11 v12 v13 v16 v24 v31 v36 v59 v64 v73 v93 v107 v114 v132 v139 => 
 uLen true v0 S fun v140 S =>
 uCmp (fun a b => Nat.ble b a) .geq v5 v140 S fun v141 S =>
 κ .normal (.mk v0 v1 v4 v5 v6 v7 v8 v9 v10 v11 v12 v13 v16 v24 v141 v36 v59 v64 v73 v93 v107 v114 v132 v139) S) v
def u82_9 : W24 → FV := fun v => W24.rec (motive := fun _ => FV) (fun v0 v1 v4 v5 v6 v7 v8 v9 v10 v11 v12 v13 v16 v24 v31 v36 v59 v64 v73 v93 v107 v114 v132 v139 => v31) v
def u82_10 (C : CU) : CdU W24 := fun v S κ => W24.rec (motive := fun _ => RU) (fun v0 v1 v4 v5 v6 v7 v8 v9 v10 v11 v12 v13 v16 v24 v31 v36 v59 v64 v73 v93 v107 v114 v132 v139 => 
 κ .normal (.mk v0 v1 (.i .i64 (-1)) v5 v6 v7 v8 v9 v10 v11 v12 v13 v16 v24 v31 v36 v59 v64 v73 v93 v107 v114 v132 v139) S) v
def u82_11 (C : CU) : CdU W24 := fun v S κ => W24.rec (motive := fun _ => RU) (fun v0 v1 v4 v5 v6 v7 v8 v9 v10 v11 v12 v13 v16 v24 v31 v36 v59 v64 v73 v93 v107 v114 v132 v139 => 
 eT (.f 0 [] []) fun b => cn b
 (κ .normal (.mk v0 v1 v4 v5 v6 v7 v8 v9 v10 v11 v12 v13 v16 v24 v31 v36 v59 v64 v73 v93 v107 v114 v132 v139) S)
 (κ .normal (.mk v0 v1 v4 v5 v6 v7 v8 v9 v10 v11 v12 v13 v16 v24 v31 v36 v59 v64 v73 v93 v107 v114 v132 v139) S)) v
def u82_12 : W24 → FV := fun v => W24.rec (motive := fun _ => FV) (fun v0 v1 v4 v5 v6 v7 v8 v9 v10 v11 v12 v13 v16 v24 v31 v36 v59 v64 v73 v93 v107 v114 v132 v139 => v36) v
def u82_13 (C : CU) : CdU W24 := fun v S κ => W24.rec (motive := fun _ => RU) (fun v0 v1 v4 v5 v6 v7 v8 v9 v10 v11 v12 v13 v16 v24 v31 v36 v59 v64 v73 v93 v107 v114 v132 v139 => 
 uCall C 116 [v0, v1] S fun v140 S =>
 κ .normal (.mk v0 v1 v140 v5 v6 v7 v8 v9 v10 v11 v12 v13 v16 v24 v31 v36 v59 v64 v73 v93 v107 v114 v132 v139) S) v
def u82_14 (C : CU) : CdU W24 := fun v S κ => W24.rec (motive := fun _ => RU) (fun v0 v1 v4 v5 v6 v7 v8 v9 v10 v11 v12 v13 v16 v24 v31 v36 v59 v64 v73 v93 v107 v114 v132 v139 => 
 uIdxS v1 (.n 0) S fun v140 S =>
 κ .normal (.mk v0 v1 v4 v5 v140 v7 v8 v9 v10 v11 v12 v13 v16 v24 v31 v36 v59 v64 v73 v93 v107 v114 v132 v139) S) v
def u82_15 (C : CU) : CdU W24 := fun v S κ => W24.rec (motive := fun _ => RU) (fun v0 v1 v4 v5 v6 v7 v8 v9 v10 v11 v12 v13 v16 v24 v31 v36 v59 v64 v73 v93 v107 v114 v132 v139 => 
 uIdxS v1 (.n 1) S fun v140 S =>
 κ .normal (.mk v0 v1 v4 v5 v6 v140 v8 v9 v10 v11 v12 v13 v16 v24 v31 v36 v59 v64 v73 v93 v107 v114 v132 v139) S) v
def u82_16 (C : CU) : CdU W24 := fun v S κ => W24.rec (motive := fun _ => RU) (fun v0 v1 v4 v5 v6 v7 v8 v9 v10 v11 v12 v13 v16 v24 v31 v36 v59 v64 v73 v93 v107 v114 v132 v139 => 
 κ .normal (.mk v0 v1 v4 v5 v6 v7 (.n 0) v9 v10 v11 v12 v13 v16 v24 v31 v36 v59 v64 v73 v93 v107 v114 v132 v139) S) v
def u82_17 (C : CU) : CdU W24 := fun v S κ => W24.rec (motive := fun _ => RU) (fun v0 v1 v4 v5 v6 v7 v8 v9 v10 v11 v12 v13 v16 v24 v31 v36 v59 v64 v73 v93 v107 v114 v132 v139 => 
 uLen true v0 S fun v140 S =>
 uSub v140 v5 S fun v141 S =>
 uAdd v141 (.n 1) S fun v142 S =>
 κ .normal (.mk v0 v1 v4 v5 v6 v7 v8 v142 v10 v11 v12 v13 v16 v24 v31 v36 v59 v64 v73 v93 v107 v114 v132 v139) S) v
def u82_18 (C : CU) : CdU W24 := fun v S κ => W24.rec (motive := fun _ => RU) (fun v0 v1 v4 v5 v6 v7 v8 v9 v10 v11 v12 v13 v16 v24 v31 v36 v59 v64 v73 v93 v107 v114 v132 v139 => 
 κ .normal (.mk v0 v1 v4 v5 v6 v7 v8 v9 (.n 0) v11 v12 v13 v16 v24 v31 v36 v59 v64 v73 v93 v107 v114 v132 v139) S) v
def u82_19 (C : CU) : CdU W24 := fun v S κ => W24.rec (motive := fun _ => RU) (fun v0 v1 v4 v5 v6 v7 v8 v9 v10 v11 v12 v13 v16 v24 v31 v36 v59 v64 v73 v93 v107 v114 v132 v139 => 
 uCmp ltN .lss v8 v9 S fun v140 S =>
 κ .normal (.mk v0 v1 v4 v5 v6 v7 v8 v9 v10 v11 v12 v13 v16 v24 v31 v36 v140 v64 v73 v93 v107 v114 v132 v139) S) v
def u82_20 : W24 → FV := fun v => W24.rec (motive := fun _ => FV) (fun v0 v1 v4 v5 v6 v7 v8 v9 v10 v11 v12 v13 v16 v24 v31 v36 v59 v64 v73 v93 v107 v114 v132 v139 => v59) v
def u82_21 (C : CU) : CdU W24 := fun v S κ => W24.rec (motive := fun _ => RU) (fun v0 v1 v4 v5 v6 v7 v8 v9 v10 v11 v12 v13 v16 v24 v31 v36 v59 v64 v73 v93 v107 v114 v132 v139 => 
 uIdxS v0 v8 S fun v140 S =>
 uEq true .neq v140 v6 S fun v141 S =>
 κ .normal (.mk v0 v1 v4 v5 v6 v7 v8 v9 v10 v11 v12 v13 v16 v24 v31 v36 v59 v141 v73 v93 v107 v114 v132 v139) S) v
def u82_22 : W24 → FV := fun v => W24.rec (motive := fun _ => FV) (fun v0 v1 v4 v5 v6 v7 v8 v9 v10 v11 v12 v13 v16 v24 v31 v36 v59 v64 v73 v93 v107 v114 v132 v139 => v64) v
def u82_23 (C : CU) : CdU W24 := fun v S κ => W24.rec (motive := fun _ => RU) (fun v0 v1 v4 v5 v6 v7 v8 v9 v10 v11 v12 v13 v16 v24 v31 v36 v59 v64 v73 v93 v107 v114 v132 v139 => 
 uAdd v8 (.n 1) S fun v140 S =>
 uSlS v0 (some v140) (some v9) S fun v141 S =>
 uCall C 80 [v141, v6] S fun v142 S =>
 κ .normal (.mk v0 v1 v4 v5 v6 v7 v8 v9 v10 v142 v12 v13 v16 v24 v31 v36 v59 v64 v73 v93 v107 v114 v132 v139) S) v
def u82_24 (C : CU) : CdU W24 := fun v S κ => W24.rec (motive := fun _ => RU) (fun v0 v1 v4 v5 v6 v7 v8 v9 v10 v11 v12 v13 v16 v24 v31 v36 v59 v64 v73 v93 v107 v114 v132 v139 => 
 uCmp ltN .lss v11 (.n 0) S fun v140 S =>
 κ .normal (.mk v0 v1 v4 v5 v6 v7 v8 v9 v10 v11 v12 v13 v16 v24 v31 v36 v59 v64 v140 v93 v107 v114 v132 v139) S) v
def u82_25 : W24 → FV := fun v => W24.rec (motive := fun _ => FV) (fun v0 v1 v4 v5 v6 v7 v8 v9 v10 v11 v12 v13 v16 v24 v31 v36 v59 v64 v73 v93 v107 v114 v132 v139 => v73) v
def u82_26 (C : CU) : CdU W24 := fun v S κ => W24.rec (motive := fun _ => RU) (fun v0 v1 v4 v5 v6 v7 v8 v9 v10 v11 v12 v13 v16 v24 v31 v36 v59 v64 v73 v93 v107 v114 v132 v139 => 
 κ .normal (.mk v0 v1 (.i .i64 (-1)) v5 v6 v7 v8 v9 v10 v11 v12 v13 v16 v24 v31 v36 v59 v64 v73 v93 v107 v114 v132 v139) S) v
def u82_27 (C : CU) : CdU W24 := fun v S κ => W24.rec (motive := fun _ => RU) (fun v0 v1 v4 v5 v6 v7 v8 v9 v10 v11 v12 v13 v16 v24 v31 v36 v59 v64 v73 v93 v107 v114 v132 v139 => 
 uAdd v11 (.n 1) S fun v140 S =>
 uAdd v8 v140 S fun v141 S =>
 κ .normal (.mk v0 v1 v4 v5 v6 v7 v141 v9 v10 v11 v12 v13 v16 v24 v31 v36 v59 v64 v73 v93 v107 v114 v132 v139) S) v
def u82_28 (C : CU) : CdU W24 := fun v S κ => W24.rec (motive := fun _ => RU) (fun v0 v1 v4 v5 v6 v7 v8 v9 v10 v11 v12 v13 v16 v24 v31 v36 v59 v64 v73 v93 v107 v114 v132 v139 => 
 uAdd v8 (.n 1) S fun v140 S =>
 uIdxS v0 v140 S fun v141 S =>
 uEq false .eql v141 v7 S fun v142 S =>
 eT v142 fun b => cn b
 (uAdd v8 v5 S fun v143 S =>
 uSlS v0 (some v8) (some v143) S fun v144 S =>
 uEq false .eql v144 v1 S fun v145 S =>
 κ .normal (.mk v0 v1 v4 v5 v6 v7 v8 v9 v10 v11 v12 v13 v16 v24 v31 v36 v59 v64 v73 v145 v107 v114 v132 v139) S)
 (κ .normal (.mk v0 v1 v4 v5 v6 v7 v8 v9 v10 v11 v12 v13 v16 v24 v31 v36 v59 v64 v73 (.t false) v107 v114 v132 v139) S)) v
def u82_29 : W24 → FV := fun v => W24.rec (motive := fun _ => FV) (fun v0 v1 v4 v5 v6 v7 v8 v9 v10 v11 v12 v13 v16 v24 v31 v36 v59 v64 v73 v93 v107 v114 v132 v139 => v93) v
def u82_30 (C : CU) : CdU W24 := fun v S κ => W24.rec (motive := fun _ => RU) (fun v0 v1 v4 v5 v6 v7 v8 v9 v10 v11 v12 v13 v16 v24 v31 v36 v59 v64 v73 v93 v107 v114 v132 v139 => 
 κ .normal (.mk v0 v1 v8 v5 v6 v7 v8 v9 v10 v11 v12 v13 v16 v24 v31 v36 v59 v64 v73 v93 v107 v114 v132 v139) S) v
def u82_31 (C : CU) : CdU W24 := fun v S κ => W24.rec (motive := fun _ => RU) (fun v0 v1 v4 v5 v6 v7 v8 v9 v10 v11 v12 v13 v16 v24 v31 v36 v59 v64 v73 v93 v107 v114 v132 v139 => 
 uAdd v8 (.n 1) S fun v140 S =>
 κ .normal (.mk v0 v1 v4 v5 v6 v7 v140 v9 v10 v11 v12 v13 v16 v24 v31 v36 v59 v64 v73 v93 v107 v114 v132 v139) S) v
def u82_32 (C : CU) : CdU W24 := fun v S κ => W24.rec (motive := fun _ => RU) (fun v0 v1 v4 v5 v6 v7 v8 v9 v10 v11 v12 v13 v16 v24 v31 v36 v59 v64 v73 v93 v107 v114 v132 v139 => 
 uAdd v10 (.n 1) S fun v140 S =>
 κ .normal (.mk v0 v1 v4 v5 v6 v7 v8 v9 v140 v11 v12 v13 v16 v24 v31 v36 v59 v64 v73 v93 v107 v114 v132 v139) S) v
def u82_33 (C : CU) : CdU W24 := fun v S κ => W24.rec (motive := fun _ => RU) (fun v0 v1 v4 v5 v6 v7 v8 v9 v10 v11 v12 v13 v16 v24 v31 v36 v59 v64 v73 v93 v107 v114 v132 v139 => 
 eT (.f 0 [] []) fun b => cn b
 (κ .normal (.mk v0 v1 v4 v5 v6 v7 v8 v9 v10 v11 v12 v13 v16 v24 v31 v36 v59 v64 v73 v93 v107 v114 v132 v139) S)
 (κ .normal (.mk v0 v1 v4 v5 v6 v7 v8 v9 v10 v11 v12 v13 v16 v24 v31 v36 v59 v64 v73 v93 v107 v114 v132 v139) S)) v
def u82_34 : W24 → FV := fun v => W24.rec (motive := fun _ => FV) (fun v0 v1 v4 v5 v6 v7 v8 v9 v10 v11 v12 v13 v16 v24 v31 v36 v59 v64 v73 v93 v107 v114 v132 v139 => v107) v
def u82_35 (C : CU) : CdU W24 := fun v S κ => W24.rec (motive := fun _ => RU) (fun v0 v1 v4 v5 v6 v7 v8 v9 v10 v11 v12 v13 v16 v24 v31 v36 v59 v64 v73 v93 v107 v114 v132 v139 => 
 uSlS v0 (some v8) none S fun v140 S =>
 uCall C 116 [v140, v1] S fun v141 S =>
 κ .normal (.mk v0 v1 v4 v5 v6 v7 v8 v9 v10 v11 v141 v13 v16 v24 v31 v36 v59 v64 v73 v93 v107 v114 v132 v139) S) v
def u82_36 (C : CU) : CdU W24 := fun v S κ => W24.rec (motive := fun _ => RU) (fun v0 v1 v4 v5 v6 v7 v8 v9 v10 v11 v12 v13 v16 v24 v31 v36 v59 v64 v73 v93 v107 v114 v132 v139 => 
 uCmp (fun a b => Nat.ble b a) .geq v12 (.n 0) S fun v140 S =>
 κ .normal (.mk v0 v1 v4 v5 v6 v7 v8 v9 v10 v11 v12 v13 v16 v24 v31 v36 v59 v64 v73 v93 v107 v140 v132 v139) S) v
def u82_37 : W24 → FV := fun v => W24.rec (motive := fun _ => FV) (fun v0 v1 v4 v5 v6 v7 v8 v9 v10 v11 v12 v13 v16 v24 v31 v36 v59 v64 v73 v93 v107 v114 v132 v139 => v114) v
def u82_38 (C : CU) : CdU W24 := fun v S κ => W24.rec (motive := fun _ => RU) (fun v0 v1 v4 v5 v6 v7 v8 v9 v10 v11 v12 v13 v16 v24 v31 v36 v59 v64 v73 v93 v107 v114 v132 v139 => 
 uAdd v12 v8 S fun v140 S =>
 κ .normal (.mk v0 v1 v140 v5 v6 v7 v8 v9 v10 v11 v12 v13 v16 v24 v31 v36 v59 v64 v73 v93 v107 v114 v132 v139) S) v
def u82_39 (C : CU) : CdU W24 := fun v S κ => W24.rec (motive := fun _ => RU) (fun v0 v1 v4 v5 v6 v7 v8 v9 v10 v11 v12 v13 v16 v24 v31 v36 v59 v64 v73 v93 v107 v114 v132 v139 => 
 κ .normal (.mk v0 v1 (.i .i64 (-1)) v5 v6 v7 v8 v9 v10 v11 v12 v13 v16 v24 v31 v36 v59 v64 v73 v93 v107 v114 v132 v139) S) v
def u82_40 (C : CU) : CdU W24 := fun v S κ => W24.rec (motive := fun _ => RU) (fun v0 v1 v4 v5 v6 v7 v8 v9 v10 v11 v12 v13 v16 v24 v31 v36 v59 v64 v73 v93 v107 v114 v132 v139 => 
 eT (.f 0 [] []) fun b => cn b
 (κ .normal (.mk v0 v1 v4 v5 v6 v7 v8 v9 v10 v11 v12 v13 v16 v24 v31 v36 v59 v64 v73 v93 v107 v114 v132 v139) S)
 (κ .normal (.mk v0 v1 v4 v5 v6 v7 v8 v9 v10 v11 v12 v13 v16 v24 v31 v36 v59 v64 v73 v93 v107 v114 v132 v139) S)) v
def u82_41 : W24 → FV := fun v => W24.rec (motive := fun _ => FV) (fun v0 v1 v4 v5 v6 v7 v8 v9 v10 v11 v12 v13 v16 v24 v31 v36 v59 v64 v73 v93 v107 v114 v132 v139 => v132) v
def u82_42 (C : CU) : CdU W24 := fun v S κ => W24.rec (motive := fun _ => RU) (fun v0 v1 v4 v5 v6 v7 v8 v9 v10 v11 v12 v13 v16 v24 v31 v36 v59 v64 v73 v93 v107 v114 v132 v139 => 
 uSlS v0 (some v8) none S fun v140 S =>
 uCall C 118 [v140, v1] S fun v141 S =>
 κ .normal (.mk v0 v1 v4 v5 v6 v7 v8 v9 v10 v11 v12 v141 v16 v24 v31 v36 v59 v64 v73 v93 v107 v114 v132 v139) S) v
def u82_43 (C : CU) : CdU W24 := fun v S κ => W24.rec (motive := fun _ => RU) (fun v0 v1 v4 v5 v6 v7 v8 v9 v10 v11 v12 v13 v16 v24 v31 v36 v59 v64 v73 v93 v107 v114 v132 v139 => 
 uCmp ltN .lss v13 (.n 0) S fun v140 S =>
 κ .normal (.mk v0 v1 v4 v5 v6 v7 v8 v9 v10 v11 v12 v13 v16 v24 v31 v36 v59 v64 v73 v93 v107 v114 v132 v140) S) v
def u82_44 : W24 → FV := fun v => W24.rec (motive := fun _ => FV) (fun v0 v1 v4 v5 v6 v7 v8 v9 v10 v11 v12 v13 v16 v24 v31 v36 v59 v64 v73 v93 v107 v114 v132 v139 => v139) v
def u82_45 (C : CU) : CdU W24 := fun v S κ => W24.rec (motive := fun _ => RU) (fun v0 v1 v4 v5 v6 v7 v8 v9 v10 v11 v12 v13 v16 v24 v31 v36 v59 v64 v73 v93 v107 v114 v132 v139 => 
 κ .normal (.mk v0 v1 (.i .i64 (-1)) v5 v6 v7 v8 v9 v10 v11 v12 v13 v16 v24 v31 v36 v59 v64 v73 v93 v107 v114 v132 v139) S) v
def u82_46 (C : CU) : CdU W24 := fun v S κ => W24.rec (motive := fun _ => RU) (fun v0 v1 v4 v5 v6 v7 v8 v9 v10 v11 v12 v13 v16 v24 v31 v36 v59 v64 v73 v93 v107 v114 v132 v139 => 
 uAdd v8 v13 S fun v140 S =>
 κ .normal (.mk v0 v1 v140 v5 v6 v7 v8 v9 v10 v11 v12 v13 v16 v24 v31 v36 v59 v64 v73 v93 v107 v114 v132 v139) S) v
def u82_47 (C : CU) (n : Nat) : CdU W24 := seqU (seqU (u82_19 C) (condU u82_20 (skipU) (exitU 1))) (blockU 2 (seqU (seqU (u82_21 C) (condU u82_22 (seqU (u82_23 C) (seqU (seqU (u82_24 C) (condU u82_25 (seqU (u82_26 C) (retU)) (skipU))) (u82_27 C))) (skipU))) (seqU (seqU (u82_28 C) (condU u82_29 (seqU (u82_30 C) (retU)) (skipU))) (seqU (u82_31 C) (seqU (u82_32 C) (seqU (u82_33 C) (condU u82_34 (seqU (u82_35 C) (seqU (seqU (u82_36 C) (condU u82_37 (seqU (u82_38 C) (retU)) (skipU))) (seqU (u82_39 C) (retU)))) (seqU (u82_40 C) (condU u82_41 (seqU (u82_42 C) (seqU (seqU (u82_43 C) (condU u82_44 (seqU (u82_45 C) (retU)) (skipU))) (seqU (u82_46 C) (retU)))) (skipU))))))))))
def u82_48 (C : CU) : CdU W24 := fun v S κ => W24.rec (motive := fun _ => RU) (fun v0 v1 v4 v5 v6 v7 v8 v9 v10 v11 v12 v13 v16 v24 v31 v36 v59 v64 v73 v93 v107 v114 v132 v139 => 
 κ .normal (.mk v0 v1 (.i .i64 (-1)) v5 v6 v7 v8 v9 v10 v11 v12 v13 v16 v24 v31 v36 v59 v64 v73 v93 v107 v114 v132 v139) S) v
def u82r (v : W24) (S : FAW) : RU := W24.rec (motive := fun _ => RU) (fun v0 v1 v4 v5 v6 v7 v8 v9 v10 v11 v12 v13 v16 v24 v31 v36 v59 v64 v73 v93 v107 v114 v132 v139 => .ok v4 S) v
def u82 : Fu := fun C n args S => (seqU (u82_0 C) (seqU (u82_1 C) (seqU (blockU 0 (seqU (u82_2 C) (condU u82_3 (seqU (u82_4 C) (retU)) (seqU (u82_5 C) (condU u82_6 (seqU (u82_7 C) (retU)) (seqU (u82_8 C) (condU u82_9 (seqU (u82_10 C) (retU)) (seqU (u82_11 C) (condU u82_12 (seqU (u82_13 C) (retU)) (skipU)))))))))) (seqU (u82_14 C) (seqU (u82_15 C) (seqU (u82_16 C) (seqU (u82_17 C) (seqU (u82_18 C) (seqU (blockU 1 (loopU n (u82_47 C n))) (seqU (u82_48 C) (retU)))))))))) : CdU W24) (.mk (argU args 0) (argU args 1) (argU args 4) (argU args 5) (argU args 6) (argU args 7) (argU args 8) (argU args 9) (argU args 10) (argU args 11) (argU args 12) (argU args 13) (argU args 16) (argU args 24) (argU args 31) (argU args 36) (argU args 59) (argU args 64) (argU args 73) (argU args 93) (argU args 107) (argU args 114) (argU args 132) (argU args 139)) S fun o v S => exU o (u82r v S) (fun _ => .no) (u82r v S)
/-! (*assayer/assayerref5.lexer).space -/
def u86_0 (C : CU) : CdU W10 := fun v S κ => W10.rec (motive := fun _ => RU) (fun v0 v2 v3 v20 v30 v52 v87 v95 v125 v134 => 
 uGet 1 v0 S fun v137 S =>
 uGet 0 v0 S fun v140 S =>
 uLen true v140 S fun v141 S =>
 uCmp ltN .lss v137 v141 S fun v142 S =>
 eT v142 fun b => cn b
 (uGet 2 v0 S fun v145 S =>
 uEq false .eql v145 (.n 0) S fun v146 S =>
 κ .normal (.mk v0 v2 v3 v146 v30 v52 v87 v95 v125 v134) S)
 (κ .normal (.mk v0 v2 v3 (.t false) v30 v52 v87 v95 v125 v134) S)) v
def u86_1 : W10 → FV := fun v => W10.rec (motive := fun _ => FV) (fun v0 v2 v3 v20 v30 v52 v87 v95 v125 v134 => v20) v
def u86_2 (C : CU) : CdU W10 := fun v S κ => W10.rec (motive := fun _ => RU) (fun v0 v2 v3 v20 v30 v52 v87 v95 v125 v134 => 
 uGet 0 v0 S fun v137 S =>
 uGet 1 v0 S fun v140 S =>
 uIdxS v137 v140 S fun v141 S =>
 κ .normal (.mk v0 v141 v3 v20 v30 v52 v87 v95 v125 v134) S) v
def u86_3 (C : CU) : CdU W10 := fun v S κ => W10.rec (motive := fun _ => RU) (fun v0 v2 v3 v20 v30 v52 v87 v95 v125 v134 => 
 uEq false .eql v2 (.b 9) S fun v135 S =>
 eT v135 fun b => cn b
 (κ .normal (.mk v0 v2 v3 v20 (.t true) v52 v87 v95 v125 v134) S)
 (uEq false .eql v2 (.b 10) S fun v136 S =>
 eT v136 fun b => cn b
 (κ .normal (.mk v0 v2 v3 v20 (.t true) v52 v87 v95 v125 v134) S)
 (uEq false .eql v2 (.b 13) S fun v137 S =>
 eT v137 fun b => cn b
 (κ .normal (.mk v0 v2 v3 v20 (.t true) v52 v87 v95 v125 v134) S)
 (uEq false .eql v2 (.b 32) S fun v138 S =>
 κ .normal (.mk v0 v2 v3 v20 v138 v52 v87 v95 v125 v134) S)))) v
def u86_4 : W10 → FV := fun v => W10.rec (motive := fun _ => FV) (fun v0 v2 v3 v20 v30 v52 v87 v95 v125 v134 => v30) v
def u86_5 (C : CU) : CdU W10 := fun v S κ => W10.rec (motive := fun _ => RU) (fun v0 v2 v3 v20 v30 v52 v87 v95 v125 v134 => 
 uGet 1 v0 S fun v137 S =>
 uAdd v137 (.n 1) S fun v138 S =>
 uNilc v0 S fun v139 S =>
 uFad 1 v139 S fun v140 S =>
 uSt 1 v140 v138 S fun v141 S =>
 κ .normal (.mk v0 v2 v3 v20 v30 v52 v87 v95 v125 v134) S) v
def u86_6 (C : CU) : CdU W10 := fun v S κ => W10.rec (motive := fun _ => RU) (fun v0 v2 v3 v20 v30 v52 v87 v95 v125 v134 => 
 uEq false .eql v2 (.b 35) S fun v135 S =>
 eT v135 fun b => cn b
 (κ .normal (.mk v0 v2 v3 v20 v30 (.t true) v87 v95 v125 v134) S)
 (uGet 0 v0 S fun v138 S =>
 uGet 1 v0 S fun v141 S =>
 uCall C 119 [v138, v141, (.s [47, 47])] S fun v142 S =>
 κ .normal (.mk v0 v2 v3 v20 v30 v142 v87 v95 v125 v134) S)) v
def u86_7 : W10 → FV := fun v => W10.rec (motive := fun _ => FV) (fun v0 v2 v3 v20 v30 v52 v87 v95 v125 v134 => v52) v
def u86_8 (C : CU) : CdU W10 := fun v S κ => W10.rec (motive := fun _ => RU) (fun v0 v2 v3 v20 v30 v52 v87 v95 v125 v134 => 
 uGet 1 v0 S fun v137 S =>
 uGet 0 v0 S fun v140 S =>
 uLen true v140 S fun v141 S =>
 uCmp ltN .lss v137 v141 S fun v142 S =>
 eT v142 fun b => cn b
 (uGet 0 v0 S fun v145 S =>
 uGet 1 v0 S fun v148 S =>
 uIdxS v145 v148 S fun v149 S =>
 uEq true .neq v149 (.b 10) S fun v150 S =>
 κ .normal (.mk v0 v2 v3 v20 v30 v52 v150 v95 v125 v134) S)
 (κ .normal (.mk v0 v2 v3 v20 v30 v52 (.t false) v95 v125 v134) S)) v
def u86_9 : W10 → FV := fun v => W10.rec (motive := fun _ => FV) (fun v0 v2 v3 v20 v30 v52 v87 v95 v125 v134 => v87) v
def u86_10 (C : CU) : CdU W10 := fun v S κ => W10.rec (motive := fun _ => RU) (fun v0 v2 v3 v20 v30 v52 v87 v95 v125 v134 => 
 uGet 1 v0 S fun v137 S =>
 uAdd v137 (.n 1) S fun v138 S =>
 uNilc v0 S fun v139 S =>
 uFad 1 v139 S fun v140 S =>
 uSt 1 v140 v138 S fun v141 S =>
 κ .normal (.mk v0 v2 v3 v20 v30 v52 v87 v95 v125 v134) S) v
def u86_11 (C : CU) (n : Nat) : CdU W10 := seqU (seqU (u86_8 C) (condU u86_9 (skipU) (exitU 3))) (blockU 4 (u86_10 C))
def u86_12 (C : CU) : CdU W10 := fun v S κ => W10.rec (motive := fun _ => RU) (fun v0 v2 v3 v20 v30 v52 v87 v95 v125 v134 => 
 uGet 0 v0 S fun v137 S =>
 uGet 1 v0 S fun v140 S =>
 uCall C 119 [v137, v140, (.s [47, 42])] S fun v141 S =>
 κ .normal (.mk v0 v2 v3 v20 v30 v52 v87 v141 v125 v134) S) v
def u86_13 : W10 → FV := fun v => W10.rec (motive := fun _ => FV) (fun v0 v2 v3 v20 v30 v52 v87 v95 v125 v134 => v95) v
def u86_14 (C : CU) : CdU W10 := fun v S κ => W10.rec (motive := fun _ => RU) (fun v0 v2 v3 v20 v30 v52 v87 v95 v125 v134 => 
 uGet 1 v0 S fun v137 S =>
 uAdd v137 (.n 2) S fun v138 S =>
 κ .normal (.mk v0 v2 v138 v20 v30 v52 v87 v95 v125 v134) S) v
def u86_15 (C : CU) : CdU W10 := fun v S κ => W10.rec (motive := fun _ => RU) (fun v0 v2 v3 v20 v30 v52 v87 v95 v125 v134 => 
 uGet 0 v0 S fun v137 S =>
 uLen true v137 S fun v138 S =>
 uCmp ltN .lss v3 v138 S fun v139 S =>
 eT v139 fun b => cn b
 (uGet 0 v0 S fun v142 S =>
 uCall C 119 [v142, v3, (.s [42, 47])] S fun v143 S =>
 uNot v143 S fun v144 S =>
 κ .normal (.mk v0 v2 v3 v20 v30 v52 v87 v95 v144 v134) S)
 (κ .normal (.mk v0 v2 v3 v20 v30 v52 v87 v95 (.t false) v134) S)) v
def u86_16 : W10 → FV := fun v => W10.rec (motive := fun _ => FV) (fun v0 v2 v3 v20 v30 v52 v87 v95 v125 v134 => v125) v
def u86_17 (C : CU) : CdU W10 := fun v S κ => W10.rec (motive := fun _ => RU) (fun v0 v2 v3 v20 v30 v52 v87 v95 v125 v134 => 
 uAdd v3 (.n 1) S fun v135 S =>
 κ .normal (.mk v0 v2 v135 v20 v30 v52 v87 v95 v125 v134) S) v
def u86_18 (C : CU) (n : Nat) : CdU W10 := seqU (seqU (u86_15 C) (condU u86_16 (skipU) (exitU 5))) (blockU 6 (u86_17 C))
def u86_19 (C : CU) : CdU W10 := fun v S κ => W10.rec (motive := fun _ => RU) (fun v0 v2 v3 v20 v30 v52 v87 v95 v125 v134 => 
 uGet 0 v0 S fun v137 S =>
 uLen true v137 S fun v138 S =>
 uCmp (fun a b => Nat.ble b a) .geq v3 v138 S fun v139 S =>
 κ .normal (.mk v0 v2 v3 v20 v30 v52 v87 v95 v125 v139) S) v
def u86_20 : W10 → FV := fun v => W10.rec (motive := fun _ => FV) (fun v0 v2 v3 v20 v30 v52 v87 v95 v125 v134 => v134) v
def u86_21 (C : CU) : CdU W10 := fun v S κ => W10.rec (motive := fun _ => RU) (fun v0 v2 v3 v20 v30 v52 v87 v95 v125 v134 => 
 uGet 1 v0 S fun v137 S =>
 uCall C 120 [v0, (.n 2), v137] S fun v138 S =>
 κ .normal (.mk v0 v2 v3 v20 v30 v52 v87 v95 v125 v134) S) v
def u86_22 (C : CU) : CdU W10 := fun v S κ => W10.rec (motive := fun _ => RU) (fun v0 v2 v3 v20 v30 v52 v87 v95 v125 v134 => 
 uAdd v3 (.n 2) S fun v135 S =>
 uNilc v0 S fun v136 S =>
 uFad 1 v136 S fun v137 S =>
 uSt 1 v137 v135 S fun v138 S =>
 κ .normal (.mk v0 v2 v3 v20 v30 v52 v87 v95 v125 v134) S) v
def u86_23 (C : CU) (n : Nat) : CdU W10 := seqU (seqU (u86_0 C) (condU u86_1 (skipU) (exitU 0))) (blockU 1 (seqU (u86_2 C) (blockU 2 (seqU (u86_3 C) (condU u86_4 (u86_5 C) (seqU (u86_6 C) (condU u86_7 (blockU 3 (loopU n (u86_11 C n))) (seqU (u86_12 C) (condU u86_13 (seqU (u86_14 C) (seqU (blockU 5 (loopU n (u86_18 C n))) (seqU (seqU (u86_19 C) (condU u86_20 (seqU (u86_21 C) (retU)) (skipU))) (u86_22 C)))) (retU))))))))))
def u86r (v : W10) (S : FAW) : RU := W10.rec (motive := fun _ => RU) (fun v0 v2 v3 v20 v30 v52 v87 v95 v125 v134 => .ok (.u []) S) v
def u86 : Fu := fun C n args S => (blockU 0 (loopU n (u86_23 C n)) : CdU W10) (.mk (argU args 0) (argU args 2) (argU args 3) (argU args 20) (argU args 30) (argU args 52) (argU args 87) (argU args 95) (argU args 125) (argU args 134)) S fun o v S => exU o (u86r v S) (fun _ => .no) (u86r v S)
/-! (*assayer/assayerref5.lexer).word -/
def u87_0 (C : CU) : CdU W18 := fun v S κ => W18.rec (motive := fun _ => RU) (fun v0 v2 v3 v4 v5 v6 v7 v18 v34 v43 v49 v67 v72 v83 v115 v118 v152 v170 => 
 uNewF 137 5 [(.n 0), (.s []), (.n 0), (.i .u64 0), (.n 0)] S fun v171 S =>
 κ .normal (.mk v0 v171 v3 v4 v5 v6 v7 v18 v34 v43 v49 v67 v72 v83 v115 v118 v152 v170) S) v
def u87_1 (C : CU) : CdU W18 := fun v S κ => W18.rec (motive := fun _ => RU) (fun v0 v2 v3 v4 v5 v6 v7 v18 v34 v43 v49 v67 v72 v83 v115 v118 v152 v170 => 
 uGet 1 v0 S fun v173 S =>
 κ .normal (.mk v0 v2 v173 v4 v5 v6 v7 v18 v34 v43 v49 v67 v72 v83 v115 v118 v152 v170) S) v
def u87_2 (C : CU) : CdU W18 := fun v S κ => W18.rec (motive := fun _ => RU) (fun v0 v2 v3 v4 v5 v6 v7 v18 v34 v43 v49 v67 v72 v83 v115 v118 v152 v170 => 
 uGet 0 v0 S fun v173 S =>
 uLen true v173 S fun v174 S =>
 uEq false .eql v3 v174 S fun v175 S =>
 κ .normal (.mk v0 v2 v3 v4 v5 v6 v7 v175 v34 v43 v49 v67 v72 v83 v115 v118 v152 v170) S) v
def u87_3 : W18 → FV := fun v => W18.rec (motive := fun _ => FV) (fun v0 v2 v3 v4 v5 v6 v7 v18 v34 v43 v49 v67 v72 v83 v115 v118 v152 v170 => v18) v
def u87_4 (C : CU) : CdU W18 := fun v S κ => W18.rec (motive := fun _ => RU) (fun v0 v2 v3 v4 v5 v6 v7 v18 v34 v43 v49 v67 v72 v83 v115 v118 v152 v170 => 
 uBuildF [(.n 0), (.s []), (.n 0), (.i .u64 0), (.n 0)] [(0, 1, (.n 6)), (4, 1, v3)] S fun v171 S =>
 uSt 5 v2 v171 S fun v172 S =>
 κ .normal (.mk v0 v2 v3 v4 v5 v6 v7 v18 v34 v43 v49 v67 v72 v83 v115 v118 v152 v170) S) v
def u87_5 (C : CU) : CdU W18 := fun v S κ => W18.rec (motive := fun _ => RU) (fun v0 v2 v3 v4 v5 v6 v7 v18 v34 v43 v49 v67 v72 v83 v115 v118 v152 v170 => 
 uGet 0 v0 S fun v173 S =>
 uIdxS v173 v3 S fun v174 S =>
 κ .normal (.mk v0 v2 v3 v174 v5 v6 v7 v18 v34 v43 v49 v67 v72 v83 v115 v118 v152 v170) S) v
def u87_6 (C : CU) : CdU W18 := fun v S κ => W18.rec (motive := fun _ => RU) (fun v0 v2 v3 v4 v5 v6 v7 v18 v34 v43 v49 v67 v72 v83 v115 v118 v152 v170 => 
 κ .normal (.mk v0 v2 v3 v4 (.b 0) v6 v7 v18 v34 v43 v49 v67 v72 v83 v115 v118 v152 v170) S) v
def u87_7 (C : CU) : CdU W18 := fun v S κ => W18.rec (motive := fun _ => RU) (fun v0 v2 v3 v4 v5 v6 v7 v18 v34 v43 v49 v67 v72 v83 v115 v118 v152 v170 => 
 uAdd v3 (.n 1) S fun v171 S =>
 uGet 0 v0 S fun v174 S =>
 uLen true v174 S fun v175 S =>
 uCmp ltN .lss v171 v175 S fun v176 S =>
 κ .normal (.mk v0 v2 v3 v4 v5 v6 v7 v18 v176 v43 v49 v67 v72 v83 v115 v118 v152 v170) S) v
def u87_8 : W18 → FV := fun v => W18.rec (motive := fun _ => FV) (fun v0 v2 v3 v4 v5 v6 v7 v18 v34 v43 v49 v67 v72 v83 v115 v118 v152 v170 => v34) v
def u87_9 (C : CU) : CdU W18 := fun v S κ => W18.rec (motive := fun _ => RU) (fun v0 v2 v3 v4 v5 v6 v7 v18 v34 v43 v49 v67 v72 v83 v115 v118 v152 v170 => 
 uGet 0 v0 S fun v173 S =>
 uAdd v3 (.n 1) S fun v174 S =>
 uIdxS v173 v174 S fun v175 S =>
 κ .normal (.mk v0 v2 v3 v4 v175 v6 v7 v18 v34 v43 v49 v67 v72 v83 v115 v118 v152 v170) S) v
def u87_10 (C : CU) : CdU W18 := fun v S κ => W18.rec (motive := fun _ => RU) (fun v0 v2 v3 v4 v5 v6 v7 v18 v34 v43 v49 v67 v72 v83 v115 v118 v152 v170 => 
 uCall C 39 [v4] S fun v171 S =>
 κ .normal (.mk v0 v2 v3 v4 v5 v6 v7 v18 v34 v43 v49 v171 v72 v83 v115 v118 v152 v170) S) v
def u87_11 : W18 → FV := fun v => W18.rec (motive := fun _ => FV) (fun v0 v2 v3 v4 v5 v6 v7 v18 v34 v43 v49 v67 v72 v83 v115 v118 v152 v170 => v67) v
def u87_12 (C : CU) : CdU W18 := fun v S κ => W18.rec (motive := fun _ => RU) (fun v0 v2 v3 v4 v5 v6 v7 v18 v34 v43 v49 v67 v72 v83 v115 v118 v152 v170 => 
 uCall C 121 [v0] S fun v171 S =>
 uSt 5 v2 v171 S fun v172 S =>
 κ .normal (.mk v0 v2 v3 v4 v5 v6 v7 v18 v34 v43 v49 v67 v72 v83 v115 v118 v152 v170) S) v
def u87_13 (C : CU) : CdU W18 := fun v S κ => W18.rec (motive := fun _ => RU) (fun v0 v2 v3 v4 v5 v6 v7 v18 v34 v43 v49 v67 v72 v83 v115 v118 v152 v170 => 
 uCall C 41 [v4] S fun v171 S =>
 κ .normal (.mk v0 v2 v3 v4 v5 v6 v7 v18 v34 v43 v49 v67 v171 v83 v115 v118 v152 v170) S) v
def u87_14 : W18 → FV := fun v => W18.rec (motive := fun _ => FV) (fun v0 v2 v3 v4 v5 v6 v7 v18 v34 v43 v49 v67 v72 v83 v115 v118 v152 v170 => v72) v
def u87_15 (C : CU) : CdU W18 := fun v S κ => W18.rec (motive := fun _ => RU) (fun v0 v2 v3 v4 v5 v6 v7 v18 v34 v43 v49 v67 v72 v83 v115 v118 v152 v170 => 
 uEq false .eql v4 (.b 46) S fun v171 S =>
 eT v171 fun b => cn b
 (uCall C 41 [v5] S fun v172 S =>
 κ .normal (.mk v0 v2 v3 v4 v5 v6 v7 v18 v34 v43 v49 v67 v172 v83 v115 v118 v152 v170) S)
 (κ .normal (.mk v0 v2 v3 v4 v5 v6 v7 v18 v34 v43 v49 v67 (.t false) v83 v115 v118 v152 v170) S)) v
def u87_16 : W18 → FV := fun v => W18.rec (motive := fun _ => FV) (fun v0 v2 v3 v4 v5 v6 v7 v18 v34 v43 v49 v67 v72 v83 v115 v118 v152 v170 => v72) v
def u87_17 (C : CU) : CdU W18 := fun v S κ => W18.rec (motive := fun _ => RU) (fun v0 v2 v3 v4 v5 v6 v7 v18 v34 v43 v49 v67 v72 v83 v115 v118 v152 v170 => 
 uCall C 122 [v0] S fun v171 S =>
 uSt 5 v2 v171 S fun v172 S =>
 κ .normal (.mk v0 v2 v3 v4 v5 v6 v7 v18 v34 v43 v49 v67 v72 v83 v115 v118 v152 v170) S) v
def u87_18 (C : CU) : CdU W18 := fun v S κ => W18.rec (motive := fun _ => RU) (fun v0 v2 v3 v4 v5 v6 v7 v18 v34 v43 v49 v67 v72 v83 v115 v118 v152 v170 => 
 uEq false .eql v4 (.b 43) S fun v171 S =>
 eT v171 fun b => cn b
 (κ .normal (.mk v0 v2 v3 v4 v5 v6 v7 v18 v34 v43 v49 v67 v72 (.t true) v115 v118 v152 v170) S)
 (uEq false .eql v4 (.b 45) S fun v172 S =>
 κ .normal (.mk v0 v2 v3 v4 v5 v6 v7 v18 v34 v43 v49 v67 v72 v172 v115 v118 v152 v170) S)) v
def u87_19 : W18 → FV := fun v => W18.rec (motive := fun _ => FV) (fun v0 v2 v3 v4 v5 v6 v7 v18 v34 v43 v49 v67 v72 v83 v115 v118 v152 v170 => v83) v
def u87_20 (C : CU) : CdU W18 := fun v S κ => W18.rec (motive := fun _ => RU) (fun v0 v2 v3 v4 v5 v6 v7 v18 v34 v43 v49 v67 v72 v83 v115 v118 v152 v170 => 
 uCall C 41 [v5] S fun v171 S =>
 eT v171 fun b => cn b
 (κ .normal (.mk v0 v2 v3 v4 v5 v6 v7 v18 v34 v43 v49 v67 v72 v83 (.t true) v118 v152 v170) S)
 (uEq false .eql v5 (.b 46) S fun v172 S =>
 eT v172 fun b => cn b
 (uAdd v3 (.n 2) S fun v173 S =>
 uGet 0 v0 S fun v176 S =>
 uLen true v176 S fun v177 S =>
 uCmp ltN .lss v173 v177 S fun v178 S =>
 eT v178 fun b => cn b
 (uGet 0 v0 S fun v181 S =>
 uAdd v3 (.n 2) S fun v182 S =>
 uIdxS v181 v182 S fun v183 S =>
 uCall C 41 [v183] S fun v184 S =>
 κ .normal (.mk v0 v2 v3 v4 v5 v6 v7 v18 v34 v43 v49 v67 v72 v83 v184 v118 v152 v170) S)
 (κ .normal (.mk v0 v2 v3 v4 v5 v6 v7 v18 v34 v43 v49 v67 v72 v83 (.t false) v118 v152 v170) S))
 (κ .normal (.mk v0 v2 v3 v4 v5 v6 v7 v18 v34 v43 v49 v67 v72 v83 (.t false) v118 v152 v170) S))) v
def u87_21 : W18 → FV := fun v => W18.rec (motive := fun _ => FV) (fun v0 v2 v3 v4 v5 v6 v7 v18 v34 v43 v49 v67 v72 v83 v115 v118 v152 v170 => v115) v
def u87_22 (C : CU) : CdU W18 := fun v S κ => W18.rec (motive := fun _ => RU) (fun v0 v2 v3 v4 v5 v6 v7 v18 v34 v43 v49 v67 v72 v83 v115 v118 v152 v170 => 
 uCall C 122 [v0] S fun v171 S =>
 uSt 5 v2 v171 S fun v172 S =>
 κ .normal (.mk v0 v2 v3 v4 v5 v6 v7 v18 v34 v43 v49 v67 v72 v83 v115 v118 v152 v170) S) v
def u87_23 (C : CU) : CdU W18 := fun v S κ => W18.rec (motive := fun _ => RU) (fun v0 v2 v3 v4 v5 v6 v7 v18 v34 v43 v49 v67 v72 v83 v115 v118 v152 v170 => 
 uEq false .eql v4 (.b 34) S fun v171 S =>
 eT v171 fun b => cn b
 (κ .normal (.mk v0 v2 v3 v4 v5 v6 v7 v18 v34 v43 v49 v67 v72 v83 v115 (.t true) v152 v170) S)
 (uEq false .eql v4 (.b 39) S fun v172 S =>
 κ .normal (.mk v0 v2 v3 v4 v5 v6 v7 v18 v34 v43 v49 v67 v72 v83 v115 v172 v152 v170) S)) v
def u87_24 : W18 → FV := fun v => W18.rec (motive := fun _ => FV) (fun v0 v2 v3 v4 v5 v6 v7 v18 v34 v43 v49 v67 v72 v83 v115 v118 v152 v170 => v118) v
def u87_25 (C : CU) : CdU W18 := fun v S κ => W18.rec (motive := fun _ => RU) (fun v0 v2 v3 v4 v5 v6 v7 v18 v34 v43 v49 v67 v72 v83 v115 v118 v152 v170 => 
 uAdd v3 (.n 1) S fun v171 S =>
 κ .normal (.mk v0 v2 v3 v4 v5 v171 v7 v18 v34 v43 v49 v67 v72 v83 v115 v118 v152 v170) S) v
def u87_26 (C : CU) : CdU W18 := fun v S κ => W18.rec (motive := fun _ => RU) (fun v0 v2 v3 v4 v5 v6 v7 v18 v34 v43 v49 v67 v72 v83 v115 v118 v152 v170 => 
 uGet 0 v0 S fun v173 S =>
 uLen true v173 S fun v174 S =>
 uCmp ltN .lss v6 v174 S fun v175 S =>
 eT v175 fun b => cn b
 (uGet 0 v0 S fun v178 S =>
 uIdxS v178 v6 S fun v179 S =>
 uEq true .neq v179 v4 S fun v180 S =>
 eT v180 fun b => cn b
 (uGet 0 v0 S fun v183 S =>
 uIdxS v183 v6 S fun v184 S =>
 uEq true .neq v184 (.b 10) S fun v185 S =>
 κ .normal (.mk v0 v2 v3 v4 v5 v6 v7 v18 v34 v43 v49 v67 v72 v83 v115 v118 v185 v170) S)
 (κ .normal (.mk v0 v2 v3 v4 v5 v6 v7 v18 v34 v43 v49 v67 v72 v83 v115 v118 (.t false) v170) S))
 (κ .normal (.mk v0 v2 v3 v4 v5 v6 v7 v18 v34 v43 v49 v67 v72 v83 v115 v118 (.t false) v170) S)) v
def u87_27 : W18 → FV := fun v => W18.rec (motive := fun _ => FV) (fun v0 v2 v3 v4 v5 v6 v7 v18 v34 v43 v49 v67 v72 v83 v115 v118 v152 v170 => v152) v
def u87_28 (C : CU) : CdU W18 := fun v S κ => W18.rec (motive := fun _ => RU) (fun v0 v2 v3 v4 v5 v6 v7 v18 v34 v43 v49 v67 v72 v83 v115 v118 v152 v170 => 
 uAdd v6 (.n 1) S fun v171 S =>
 κ .normal (.mk v0 v2 v3 v4 v5 v171 v7 v18 v34 v43 v49 v67 v72 v83 v115 v118 v152 v170) S) v
def u87_29 (C : CU) (n : Nat) : CdU W18 := seqU (seqU (u87_26 C) (condU u87_27 (skipU) (exitU 3))) (blockU 4 (u87_28 C))
def u87_30 (C : CU) : CdU W18 := fun v S κ => W18.rec (motive := fun _ => RU) (fun v0 v2 v3 v4 v5 v6 v7 v18 v34 v43 v49 v67 v72 v83 v115 v118 v152 v170 => 
 uGet 0 v0 S fun v173 S =>
 uLen true v173 S fun v174 S =>
 uEq false .eql v6 v174 S fun v175 S =>
 eT v175 fun b => cn b
 (κ .normal (.mk v0 v2 v3 v4 v5 v6 v7 v18 v34 v43 v49 v67 v72 v83 v115 v118 v152 (.t true)) S)
 (uGet 0 v0 S fun v178 S =>
 uIdxS v178 v6 S fun v179 S =>
 uEq false .eql v179 (.b 10) S fun v180 S =>
 κ .normal (.mk v0 v2 v3 v4 v5 v6 v7 v18 v34 v43 v49 v67 v72 v83 v115 v118 v152 v180) S)) v
def u87_31 : W18 → FV := fun v => W18.rec (motive := fun _ => FV) (fun v0 v2 v3 v4 v5 v6 v7 v18 v34 v43 v49 v67 v72 v83 v115 v118 v152 v170 => v170) v
def u87_32 (C : CU) : CdU W18 := fun v S κ => W18.rec (motive := fun _ => RU) (fun v0 v2 v3 v4 v5 v6 v7 v18 v34 v43 v49 v67 v72 v83 v115 v118 v152 v170 => 
 uCall C 120 [v0, (.n 2), v3] S fun v171 S =>
 κ .normal (.mk v0 v2 v3 v4 v5 v6 v7 v18 v34 v43 v49 v67 v72 v83 v115 v118 v152 v170) S) v
def u87_33 (C : CU) : CdU W18 := fun v S κ => W18.rec (motive := fun _ => RU) (fun v0 v2 v3 v4 v5 v6 v7 v18 v34 v43 v49 v67 v72 v83 v115 v118 v152 v170 => 
 uBuildF [(.n 0), (.s []), (.n 0), (.i .u64 0), (.n 0)] [] S fun v171 S =>
 uSt 5 v2 v171 S fun v172 S =>
 κ .normal (.mk v0 v2 v3 v4 v5 v6 v7 v18 v34 v43 v49 v67 v72 v83 v115 v118 v152 v170) S) v
def u87_34 (C : CU) : CdU W18 := fun v S κ => W18.rec (motive := fun _ => RU) (fun v0 v2 v3 v4 v5 v6 v7 v18 v34 v43 v49 v67 v72 v83 v115 v118 v152 v170 => 
 uAdd v6 (.n 1) S fun v171 S =>
 uNilc v0 S fun v172 S =>
 uFad 1 v172 S fun v173 S =>
 uSt 1 v173 v171 S fun v174 S =>
 κ .normal (.mk v0 v2 v3 v4 v5 v6 v7 v18 v34 v43 v49 v67 v72 v83 v115 v118 v152 v170) S) v
def u87_35 (C : CU) : CdU W18 := fun v S κ => W18.rec (motive := fun _ => RU) (fun v0 v2 v3 v4 v5 v6 v7 v18 v34 v43 v49 v67 v72 v83 v115 v118 v152 v170 => 
 uGet 0 v0 S fun v173 S =>
 uAdd v3 (.n 1) S fun v174 S =>
 uSlS v173 (some v174) (some v6) S fun v175 S =>
 uBuildF [(.n 0), (.s []), (.n 0), (.i .u64 0), (.n 0)] [(0, 1, (.n 4)), (1, 1, v175), (4, 1, v3)] S fun v176 S =>
 uSt 5 v2 v176 S fun v177 S =>
 κ .normal (.mk v0 v2 v3 v4 v5 v6 v7 v18 v34 v43 v49 v67 v72 v83 v115 v118 v152 v170) S) v
def u87_36 (C : CU) : CdU W18 := fun v S κ => W18.rec (motive := fun _ => RU) (fun v0 v2 v3 v4 v5 v6 v7 v18 v34 v43 v49 v67 v72 v83 v115 v118 v152 v170 => 
 κ .normal (.mk v0 v2 v3 v4 v5 v6 (.n 0) v18 v34 v43 v49 v67 v72 v83 v115 v118 v152 v170) S) v
def u87_37 (C : CU) : CdU W18 := fun v S κ => W18.rec (motive := fun _ => RU) (fun v0 v2 v3 v4 v5 v6 v7 v18 v34 v43 v49 v67 v72 v83 v115 v118 v152 v170 => 
 uCmp ltN .lss v7 (.n 13) S fun v171 S =>
 κ .normal (.mk v0 v2 v3 v4 v5 v6 v7 v18 v34 v171 v49 v67 v72 v83 v115 v118 v152 v170) S) v
def u87_38 : W18 → FV := fun v => W18.rec (motive := fun _ => FV) (fun v0 v2 v3 v4 v5 v6 v7 v18 v34 v43 v49 v67 v72 v83 v115 v118 v152 v170 => v43) v
def u87_39 (C : CU) : CdU W18 := fun v S κ => W18.rec (motive := fun _ => RU) (fun v0 v2 v3 v4 v5 v6 v7 v18 v34 v43 v49 v67 v72 v83 v115 v118 v152 v170 => 
 uIdxS (.s [123, 125, 40, 41, 91, 93, 60, 62, 44, 59, 58, 61, 42]) v7 S fun v171 S =>
 uEq false .eql v171 v4 S fun v172 S =>
 κ .normal (.mk v0 v2 v3 v4 v5 v6 v7 v18 v34 v43 v172 v67 v72 v83 v115 v118 v152 v170) S) v
def u87_40 : W18 → FV := fun v => W18.rec (motive := fun _ => FV) (fun v0 v2 v3 v4 v5 v6 v7 v18 v34 v43 v49 v67 v72 v83 v115 v118 v152 v170 => v49) v
def u87_41 (C : CU) : CdU W18 := fun v S κ => W18.rec (motive := fun _ => RU) (fun v0 v2 v3 v4 v5 v6 v7 v18 v34 v43 v49 v67 v72 v83 v115 v118 v152 v170 => 
 uGet 1 v0 S fun v173 S =>
 uAdd v173 (.n 1) S fun v174 S =>
 uNilc v0 S fun v175 S =>
 uFad 1 v175 S fun v176 S =>
 uSt 1 v176 v174 S fun v177 S =>
 κ .normal (.mk v0 v2 v3 v4 v5 v6 v7 v18 v34 v43 v49 v67 v72 v83 v115 v118 v152 v170) S) v
def u87_42 (C : CU) : CdU W18 := fun v S κ => W18.rec (motive := fun _ => RU) (fun v0 v2 v3 v4 v5 v6 v7 v18 v34 v43 v49 v67 v72 v83 v115 v118 v152 v170 => 
 uGet 0 v0 S fun v173 S =>
 uAdd v3 (.n 1) S fun v174 S =>
 uSlS v173 (some v3) (some v174) S fun v175 S =>
 uBuildF [(.n 0), (.s []), (.n 0), (.i .u64 0), (.n 0)] [(0, 1, (.n 5)), (1, 1, v175), (4, 1, v3)] S fun v176 S =>
 uSt 5 v2 v176 S fun v177 S =>
 κ .normal (.mk v0 v2 v3 v4 v5 v6 v7 v18 v34 v43 v49 v67 v72 v83 v115 v118 v152 v170) S) v
def u87_43 (C : CU) : CdU W18 := fun v S κ => W18.rec (motive := fun _ => RU) (fun v0 v2 v3 v4 v5 v6 v7 v18 v34 v43 v49 v67 v72 v83 v115 v118 v152 v170 => 
 uAdd v7 (.n 1) S fun v171 S =>
 κ .normal (.mk v0 v2 v3 v4 v5 v6 v171 v18 v34 v43 v49 v67 v72 v83 v115 v118 v152 v170) S) v
def u87_44 (C : CU) (n : Nat) : CdU W18 := seqU (seqU (u87_37 C) (condU u87_38 (skipU) (exitU 1))) (seqU (blockU 2 (seqU (u87_39 C) (condU u87_40 (seqU (u87_41 C) (seqU (u87_42 C) (retU))) (skipU)))) (u87_43 C))
def u87_45 (C : CU) : CdU W18 := fun v S κ => W18.rec (motive := fun _ => RU) (fun v0 v2 v3 v4 v5 v6 v7 v18 v34 v43 v49 v67 v72 v83 v115 v118 v152 v170 => 
 uCall C 120 [v0, (.n 2), v3] S fun v171 S =>
 κ .normal (.mk v0 v2 v3 v4 v5 v6 v7 v18 v34 v43 v49 v67 v72 v83 v115 v118 v152 v170) S) v
def u87_46 (C : CU) : CdU W18 := fun v S κ => W18.rec (motive := fun _ => RU) (fun v0 v2 v3 v4 v5 v6 v7 v18 v34 v43 v49 v67 v72 v83 v115 v118 v152 v170 => 
 uBuildF [(.n 0), (.s []), (.n 0), (.i .u64 0), (.n 0)] [] S fun v171 S =>
 uSt 5 v2 v171 S fun v172 S =>
 κ .normal (.mk v0 v2 v3 v4 v5 v6 v7 v18 v34 v43 v49 v67 v72 v83 v115 v118 v152 v170) S) v
def u87r (v : W18) (S : FAW) : RU := W18.rec (motive := fun _ => RU) (fun v0 v2 v3 v4 v5 v6 v7 v18 v34 v43 v49 v67 v72 v83 v115 v118 v152 v170 => uLd (some 5) v2 S fun r2 _ => .ok r2 S) v
def u87 : Fu := fun C n args S => (seqU (u87_0 C) (seqU (u87_1 C) (seqU (seqU (u87_2 C) (condU u87_3 (seqU (u87_4 C) (retU)) (skipU))) (seqU (u87_5 C) (seqU (u87_6 C) (seqU (seqU (u87_7 C) (condU u87_8 (u87_9 C) (skipU))) (seqU (blockU 0 (seqU (u87_10 C) (condU u87_11 (seqU (u87_12 C) (retU)) (seqU (seqU (u87_13 C) (condU u87_14 (skipU) (u87_15 C))) (condU u87_16 (seqU (u87_17 C) (retU)) (seqU (u87_18 C) (condU u87_19 (seqU (u87_20 C) (condU u87_21 (seqU (u87_22 C) (retU)) (skipU))) (seqU (u87_23 C) (condU u87_24 (seqU (u87_25 C) (seqU (blockU 3 (loopU n (u87_29 C n))) (seqU (seqU (u87_30 C) (condU u87_31 (seqU (u87_32 C) (seqU (u87_33 C) (retU))) (skipU))) (seqU (u87_34 C) (seqU (u87_35 C) (retU)))))) (seqU (u87_36 C) (blockU 1 (loopU n (u87_44 C n))))))))))))) (seqU (u87_45 C) (seqU (u87_46 C) (retU))))))))) : CdU W18) (.mk (argU args 0) (argU args 2) (argU args 3) (argU args 4) (argU args 5) (argU args 6) (argU args 7) (argU args 18) (argU args 34) (argU args 43) (argU args 49) (argU args 67) (argU args 72) (argU args 83) (argU args 115) (argU args 118) (argU args 152) (argU args 170)) S fun o v S => exU o (u87r v S) (fun _ => .no) (u87r v S)
/-! (*assayer/assayerref5.parser).word -/
def u88_0 (C : CU) : CdU W3 := fun v S κ => W3.rec (motive := fun _ => RU) (fun v0 v1 v4 => 
 κ .normal (.mk v0 v1 (.t false)) S) v
def u88_1 (C : CU) : CdU W3 := fun v S κ => W3.rec (motive := fun _ => RU) (fun v0 v1 v4 => 
 uGet 2 v0 S fun v7 S =>
 uEq false .eql v7 (.n 0) S fun v8 S =>
 eT v8 fun b => cn b
 (uCall C 64 [v0] S fun v9 S =>
 uFld none 0 v9 S fun v10 S =>
 uEq false .eql v10 (.n 1) S fun v11 S =>
 eT v11 fun b => cn b
 (uCall C 64 [v0] S fun v12 S =>
 uFld none 1 v12 S fun v13 S =>
 uEq false .eql v13 v1 S fun v14 S =>
 κ .normal (.mk v0 v1 v14) S)
 (κ .normal (.mk v0 v1 (.t false)) S))
 (κ .normal (.mk v0 v1 (.t false)) S)) v
def u88r (v : W3) (S : FAW) : RU := W3.rec (motive := fun _ => RU) (fun v0 v1 v4 => .ok v4 S) v
def u88 : Fu := fun C n args S => (seqU (u88_0 C) (seqU (u88_1 C) (retU)) : CdU W3) (.mk (argU args 0) (argU args 1) (argU args 4)) S fun o v S => exU o (u88r v S) (fun _ => .no) (u88r v S)
/-! (*assayer/assayerref5.parser).took -/
def u89_0 (C : CU) : CdU W4 := fun v S κ => W4.rec (motive := fun _ => RU) (fun v0 v1 v4 v7 => 
 κ .normal (.mk v0 v1 (.t false) v7) S) v
def u89_1 (C : CU) : CdU W4 := fun v S κ => W4.rec (motive := fun _ => RU) (fun v0 v1 v4 v7 => 
 uCall C 88 [v0, v1] S fun v8 S =>
 κ .normal (.mk v0 v1 v4 v8) S) v
def u89_2 : W4 → FV := fun v => W4.rec (motive := fun _ => FV) (fun v0 v1 v4 v7 => v7) v
def u89_3 (C : CU) : CdU W4 := fun v S κ => W4.rec (motive := fun _ => RU) (fun v0 v1 v4 v7 => 
 uCall C 90 [v0] S fun v8 S =>
 κ .normal (.mk v0 v1 v4 v7) S) v
def u89_4 (C : CU) : CdU W4 := fun v S κ => W4.rec (motive := fun _ => RU) (fun v0 v1 v4 v7 => 
 κ .normal (.mk v0 v1 (.t true) v7) S) v
def u89_5 (C : CU) : CdU W4 := fun v S κ => W4.rec (motive := fun _ => RU) (fun v0 v1 v4 v7 => 
 κ .normal (.mk v0 v1 (.t false) v7) S) v
def u89r (v : W4) (S : FAW) : RU := W4.rec (motive := fun _ => RU) (fun v0 v1 v4 v7 => .ok v4 S) v
def u89 : Fu := fun C n args S => (seqU (u89_0 C) (seqU (seqU (u89_1 C) (condU u89_2 (seqU (u89_3 C) (seqU (u89_4 C) (retU))) (skipU))) (seqU (u89_5 C) (retU))) : CdU W4) (.mk (argU args 0) (argU args 1) (argU args 4) (argU args 7)) S fun o v S => exU o (u89r v S) (fun _ => .no) (u89r v S)
/-! (*assayer/assayerref5.parser).next -/
def u90_0 (C : CU) : CdU W1 := fun v S κ => W1.rec (motive := fun _ => RU) (fun v0 => 
 uGet 1 v0 S fun v3 S =>
 uAdd v3 (.n 1) S fun v4 S =>
 uNilc v0 S fun v5 S =>
 uFad 1 v5 S fun v6 S =>
 uSt 1 v6 v4 S fun v7 S =>
 κ .normal (.mk v0) S) v
def u90r (v : W1) (S : FAW) : RU := W1.rec (motive := fun _ => RU) (fun v0 => .ok (.u []) S) v
def u90 : Fu := fun C n args S => (u90_0 C : CdU W1) (.mk (argU args 0)) S fun o v S => exU o (u90r v S) (fun _ => .no) (u90r v S)
/-! (*assayer/assayerref5.parser).skip -/
def u91_0 (C : CU) : CdU W4 := fun v S κ => W4.rec (motive := fun _ => RU) (fun v0 v1 v4 v7 => 
 κ .normal (.mk v0 v1 (.t false) v7) S) v
def u91_1 (C : CU) : CdU W4 := fun v S κ => W4.rec (motive := fun _ => RU) (fun v0 v1 v4 v7 => 
 uCall C 123 [v0, v1] S fun v8 S =>
 κ .normal (.mk v0 v1 v4 v8) S) v
def u91_2 : W4 → FV := fun v => W4.rec (motive := fun _ => FV) (fun v0 v1 v4 v7 => v7) v
def u91_3 (C : CU) : CdU W4 := fun v S κ => W4.rec (motive := fun _ => RU) (fun v0 v1 v4 v7 => 
 uCall C 90 [v0] S fun v8 S =>
 κ .normal (.mk v0 v1 v4 v7) S) v
def u91_4 (C : CU) : CdU W4 := fun v S κ => W4.rec (motive := fun _ => RU) (fun v0 v1 v4 v7 => 
 κ .normal (.mk v0 v1 (.t true) v7) S) v
def u91_5 (C : CU) : CdU W4 := fun v S κ => W4.rec (motive := fun _ => RU) (fun v0 v1 v4 v7 => 
 κ .normal (.mk v0 v1 (.t false) v7) S) v
def u91r (v : W4) (S : FAW) : RU := W4.rec (motive := fun _ => RU) (fun v0 v1 v4 v7 => .ok v4 S) v
def u91 : Fu := fun C n args S => (seqU (u91_0 C) (seqU (seqU (u91_1 C) (condU u91_2 (seqU (u91_3 C) (seqU (u91_4 C) (retU))) (skipU))) (seqU (u91_5 C) (retU))) : CdU W4) (.mk (argU args 0) (argU args 1) (argU args 4) (argU args 7)) S fun o v S => exU o (u91r v S) (fun _ => .no) (u91r v S)
/-! (*assayer/assayerref5.parser).far -/
def u92_0 (C : CU) : CdU W4 := fun v S κ => W4.rec (motive := fun _ => RU) (fun v0 v2 v3 v21 => 
 κ .normal (.mk v0 (.s []) v3 v21) S) v
def u92_1 (C : CU) : CdU W4 := fun v S κ => W4.rec (motive := fun _ => RU) (fun v0 v2 v3 v21 => 
 uCall C 64 [v0] S fun v22 S =>
 uNewF 137 5 [(.n 0), (.s []), (.n 0), (.i .u64 0), (.n 0)] S fun v23 S =>
 uSt 5 v23 v22 S fun v24 S =>
 κ .normal (.mk v0 v2 v23 v21) S) v
def u92_2 (C : CU) : CdU W4 := fun v S κ => W4.rec (motive := fun _ => RU) (fun v0 v2 v3 v21 => 
 uGet 2 v0 S fun v24 S =>
 uEq true .neq v24 (.n 0) S fun v25 S =>
 eT v25 fun b => cn b
 (κ .normal (.mk v0 v2 v3 (.t true)) S)
 (uFad 0 v3 S fun v26 S =>
 uLd none v26 S fun v27 S =>
 uEq true .neq v27 (.n 1) S fun v28 S =>
 eT v28 fun b => cn b
 (κ .normal (.mk v0 v2 v3 (.t true)) S)
 (uFad 1 v3 S fun v29 S =>
 uLd none v29 S fun v30 S =>
 uCall C 124 [v30] S fun v31 S =>
 uNot v31 S fun v32 S =>
 κ .normal (.mk v0 v2 v3 v32) S))) v
def u92_3 : W4 → FV := fun v => W4.rec (motive := fun _ => FV) (fun v0 v2 v3 v21 => v21) v
def u92_4 (C : CU) : CdU W4 := fun v S κ => W4.rec (motive := fun _ => RU) (fun v0 v2 v3 v21 => 
 uCall C 66 [v0, (.n 2)] S fun v22 S =>
 κ .normal (.mk v0 v2 v3 v21) S) v
def u92_5 (C : CU) : CdU W4 := fun v S κ => W4.rec (motive := fun _ => RU) (fun v0 v2 v3 v21 => 
 κ .normal (.mk v0 (.s []) v3 v21) S) v
def u92_6 (C : CU) : CdU W4 := fun v S κ => W4.rec (motive := fun _ => RU) (fun v0 v2 v3 v21 => 
 uCall C 90 [v0] S fun v22 S =>
 κ .normal (.mk v0 v2 v3 v21) S) v
def u92_7 (C : CU) : CdU W4 := fun v S κ => W4.rec (motive := fun _ => RU) (fun v0 v2 v3 v21 => 
 uFad 1 v3 S fun v22 S =>
 uLd none v22 S fun v23 S =>
 κ .normal (.mk v0 v23 v3 v21) S) v
def u92r (v : W4) (S : FAW) : RU := W4.rec (motive := fun _ => RU) (fun v0 v2 v3 v21 => .ok v2 S) v
def u92 : Fu := fun C n args S => (seqU (u92_0 C) (seqU (u92_1 C) (seqU (seqU (u92_2 C) (condU u92_3 (seqU (u92_4 C) (seqU (u92_5 C) (retU))) (skipU))) (seqU (u92_6 C) (seqU (u92_7 C) (retU))))) : CdU W4) (.mk (argU args 0) (argU args 2) (argU args 3) (argU args 21)) S fun o v S => exU o (u92r v S) (fun _ => .no) (u92r v S)
/-! (*assayer/assayerref5.parser).typ -/
def u93_0 (C : CU) : CdU W13 := fun v S κ => W13.rec (motive := fun _ => RU) (fun v0 v1 v4 v5 v6 v7 v8 v20 v26 v32 v37 v53 v65 => 
 κ .normal (.mk v0 v1 (.s []) v5 v6 v7 v8 v20 v26 v32 v37 v53 v65) S) v
def u93_1 (C : CU) : CdU W13 := fun v S κ => W13.rec (motive := fun _ => RU) (fun v0 v1 v4 v5 v6 v7 v8 v20 v26 v32 v37 v53 v65 => 
 uCall C 64 [v0] S fun v66 S =>
 uNewF 137 5 [(.n 0), (.s []), (.n 0), (.i .u64 0), (.n 0)] S fun v67 S =>
 uSt 5 v67 v66 S fun v68 S =>
 κ .normal (.mk v0 v1 v4 v67 v6 v7 v8 v20 v26 v32 v37 v53 v65) S) v
def u93_2 (C : CU) : CdU W13 := fun v S κ => W13.rec (motive := fun _ => RU) (fun v0 v1 v4 v5 v6 v7 v8 v20 v26 v32 v37 v53 v65 => 
 uGet 2 v0 S fun v68 S =>
 uEq true .neq v68 (.n 0) S fun v69 S =>
 eT v69 fun b => cn b
 (κ .normal (.mk v0 v1 v4 v5 v6 v7 v8 (.t true) v26 v32 v37 v53 v65) S)
 (uFad 0 v5 S fun v70 S =>
 uLd none v70 S fun v71 S =>
 uEq true .neq v71 (.n 1) S fun v72 S =>
 κ .normal (.mk v0 v1 v4 v5 v6 v7 v8 v72 v26 v32 v37 v53 v65) S)) v
def u93_3 : W13 → FV := fun v => W13.rec (motive := fun _ => FV) (fun v0 v1 v4 v5 v6 v7 v8 v20 v26 v32 v37 v53 v65 => v20) v
def u93_4 (C : CU) : CdU W13 := fun v S κ => W13.rec (motive := fun _ => RU) (fun v0 v1 v4 v5 v6 v7 v8 v20 v26 v32 v37 v53 v65 => 
 uCall C 66 [v0, (.n 2)] S fun v66 S =>
 κ .normal (.mk v0 v1 v4 v5 v6 v7 v8 v20 v26 v32 v37 v53 v65) S) v
def u93_5 (C : CU) : CdU W13 := fun v S κ => W13.rec (motive := fun _ => RU) (fun v0 v1 v4 v5 v6 v7 v8 v20 v26 v32 v37 v53 v65 => 
 κ .normal (.mk v0 v1 (.s []) v5 v6 v7 v8 v20 v26 v32 v37 v53 v65) S) v
def u93_6 (C : CU) : CdU W13 := fun v S κ => W13.rec (motive := fun _ => RU) (fun v0 v1 v4 v5 v6 v7 v8 v20 v26 v32 v37 v53 v65 => 
 uFad 1 v5 S fun v66 S =>
 uLd none v66 S fun v67 S =>
 uCall C 61 [v67] S fun v68 S =>
 κ .normal (.mk v0 v1 v4 v5 v68 v7 v8 v20 v26 v32 v37 v53 v65) S) v
def u93_7 (C : CU) : CdU W13 := fun v S κ => W13.rec (motive := fun _ => RU) (fun v0 v1 v4 v5 v6 v7 v8 v20 v26 v32 v37 v53 v65 => 
 uFad 1 v5 S fun v66 S =>
 uLd none v66 S fun v67 S =>
 uEq false .eql v67 (.s [98, 121, 116, 101]) S fun v68 S =>
 κ .normal (.mk v0 v1 v4 v5 v6 v7 v8 v20 v68 v32 v37 v53 v65) S) v
def u93_8 : W13 → FV := fun v => W13.rec (motive := fun _ => FV) (fun v0 v1 v4 v5 v6 v7 v8 v20 v26 v32 v37 v53 v65 => v26) v
def u93_9 (C : CU) : CdU W13 := fun v S κ => W13.rec (motive := fun _ => RU) (fun v0 v1 v4 v5 v6 v7 v8 v20 v26 v32 v37 v53 v65 => 
 uCall C 90 [v0] S fun v66 S =>
 κ .normal (.mk v0 v1 v4 v5 v6 v7 v8 v20 v26 v32 v37 v53 v65) S) v
def u93_10 (C : CU) : CdU W13 := fun v S κ => W13.rec (motive := fun _ => RU) (fun v0 v1 v4 v5 v6 v7 v8 v20 v26 v32 v37 v53 v65 => 
 κ .normal (.mk v0 v1 (.s [105, 56]) v5 v6 v7 v8 v20 v26 v32 v37 v53 v65) S) v
def u93_11 (C : CU) : CdU W13 := fun v S κ => W13.rec (motive := fun _ => RU) (fun v0 v1 v4 v5 v6 v7 v8 v20 v26 v32 v37 v53 v65 => 
 uEq false .eql v6 (.n 0) S fun v66 S =>
 κ .normal (.mk v0 v1 v4 v5 v6 v7 v8 v20 v26 v66 v37 v53 v65) S) v
def u93_12 : W13 → FV := fun v => W13.rec (motive := fun _ => FV) (fun v0 v1 v4 v5 v6 v7 v8 v20 v26 v32 v37 v53 v65 => v32) v
def u93_13 (C : CU) : CdU W13 := fun v S κ => W13.rec (motive := fun _ => RU) (fun v0 v1 v4 v5 v6 v7 v8 v20 v26 v32 v37 v53 v65 => 
 uCall C 92 [v0] S fun v66 S =>
 κ .normal (.mk v0 v1 v66 v5 v6 v7 v8 v20 v26 v32 v37 v53 v65) S) v
def u93_14 (C : CU) : CdU W13 := fun v S κ => W13.rec (motive := fun _ => RU) (fun v0 v1 v4 v5 v6 v7 v8 v20 v26 v32 v37 v53 v65 => 
 uEq true .neq v6 (.n 15) S fun v66 S =>
 eT v66 fun b => cn b
 (uEq true .neq v6 (.n 14) S fun v67 S =>
 eT v67 fun b => cn b
 (uEq true .neq v6 (.n 13) S fun v68 S =>
 κ .normal (.mk v0 v1 v4 v5 v6 v7 v8 v20 v26 v32 v68 v53 v65) S)
 (κ .normal (.mk v0 v1 v4 v5 v6 v7 v8 v20 v26 v32 (.t false) v53 v65) S))
 (κ .normal (.mk v0 v1 v4 v5 v6 v7 v8 v20 v26 v32 (.t false) v53 v65) S)) v
def u93_15 : W13 → FV := fun v => W13.rec (motive := fun _ => FV) (fun v0 v1 v4 v5 v6 v7 v8 v20 v26 v32 v37 v53 v65 => v37) v
def u93_16 (C : CU) : CdU W13 := fun v S κ => W13.rec (motive := fun _ => RU) (fun v0 v1 v4 v5 v6 v7 v8 v20 v26 v32 v37 v53 v65 => 
 uCall C 90 [v0] S fun v66 S =>
 κ .normal (.mk v0 v1 v4 v5 v6 v7 v8 v20 v26 v32 v37 v53 v65) S) v
def u93_17 (C : CU) : CdU W13 := fun v S κ => W13.rec (motive := fun _ => RU) (fun v0 v1 v4 v5 v6 v7 v8 v20 v26 v32 v37 v53 v65 => 
 uFad 1 v5 S fun v66 S =>
 uLd none v66 S fun v67 S =>
 κ .normal (.mk v0 v1 v67 v5 v6 v7 v8 v20 v26 v32 v37 v53 v65) S) v
def u93_18 (C : CU) : CdU W13 := fun v S κ => W13.rec (motive := fun _ => RU) (fun v0 v1 v4 v5 v6 v7 v8 v20 v26 v32 v37 v53 v65 => 
 uCmp (fun a b => ltN b a) .gtr v1 (.n 12) S fun v66 S =>
 κ .normal (.mk v0 v1 v4 v5 v6 v7 v8 v20 v26 v32 v37 v66 v65) S) v
def u93_19 : W13 → FV := fun v => W13.rec (motive := fun _ => FV) (fun v0 v1 v4 v5 v6 v7 v8 v20 v26 v32 v37 v53 v65 => v53) v
def u93_20 (C : CU) : CdU W13 := fun v S κ => W13.rec (motive := fun _ => RU) (fun v0 v1 v4 v5 v6 v7 v8 v20 v26 v32 v37 v53 v65 => 
 uCall C 66 [v0, (.n 6)] S fun v66 S =>
 κ .normal (.mk v0 v1 v4 v5 v6 v7 v8 v20 v26 v32 v37 v53 v65) S) v
def u93_21 (C : CU) : CdU W13 := fun v S κ => W13.rec (motive := fun _ => RU) (fun v0 v1 v4 v5 v6 v7 v8 v20 v26 v32 v37 v53 v65 => 
 κ .normal (.mk v0 v1 (.s []) v5 v6 v7 v8 v20 v26 v32 v37 v53 v65) S) v
def u93_22 (C : CU) : CdU W13 := fun v S κ => W13.rec (motive := fun _ => RU) (fun v0 v1 v4 v5 v6 v7 v8 v20 v26 v32 v37 v53 v65 => 
 uCall C 90 [v0] S fun v66 S =>
 κ .normal (.mk v0 v1 v4 v5 v6 v7 v8 v20 v26 v32 v37 v53 v65) S) v
def u93_23 (C : CU) : CdU W13 := fun v S κ => W13.rec (motive := fun _ => RU) (fun v0 v1 v4 v5 v6 v7 v8 v20 v26 v32 v37 v53 v65 => 
 uCall C 95 [v0, (.s [60])] S fun v66 S =>
 κ .normal (.mk v0 v1 v4 v5 v6 v7 v8 v20 v26 v32 v37 v53 v65) S) v
def u93_24 (C : CU) : CdU W13 := fun v S κ => W13.rec (motive := fun _ => RU) (fun v0 v1 v4 v5 v6 v7 v8 v20 v26 v32 v37 v53 v65 => 
 uAdd v1 (.n 1) S fun v66 S =>
 uCall C 93 [v0, v66] S fun v67 S =>
 κ .normal (.mk v0 v1 v4 v5 v6 v67 (.s []) v20 v26 v32 v37 v53 v65) S) v
def u93_25 (C : CU) : CdU W13 := fun v S κ => W13.rec (motive := fun _ => RU) (fun v0 v1 v4 v5 v6 v7 v8 v20 v26 v32 v37 v53 v65 => 
 uEq false .eql v6 (.n 13) S fun v66 S =>
 κ .normal (.mk v0 v1 v4 v5 v6 v7 v8 v20 v26 v32 v37 v53 v66) S) v
def u93_26 : W13 → FV := fun v => W13.rec (motive := fun _ => FV) (fun v0 v1 v4 v5 v6 v7 v8 v20 v26 v32 v37 v53 v65 => v65) v
def u93_27 (C : CU) : CdU W13 := fun v S κ => W13.rec (motive := fun _ => RU) (fun v0 v1 v4 v5 v6 v7 v8 v20 v26 v32 v37 v53 v65 => 
 uCall C 95 [v0, (.s [44])] S fun v66 S =>
 κ .normal (.mk v0 v1 v4 v5 v6 v7 v8 v20 v26 v32 v37 v53 v65) S) v
def u93_28 (C : CU) : CdU W13 := fun v S κ => W13.rec (motive := fun _ => RU) (fun v0 v1 v4 v5 v6 v7 v8 v20 v26 v32 v37 v53 v65 => 
 uAdd v1 (.n 1) S fun v66 S =>
 uCall C 93 [v0, v66] S fun v67 S =>
 κ .normal (.mk v0 v1 v4 v5 v6 v7 v67 v20 v26 v32 v37 v53 v65) S) v
def u93_29 (C : CU) : CdU W13 := fun v S κ => W13.rec (motive := fun _ => RU) (fun v0 v1 v4 v5 v6 v7 v8 v20 v26 v32 v37 v53 v65 => 
 uCall C 95 [v0, (.s [62])] S fun v66 S =>
 κ .normal (.mk v0 v1 v4 v5 v6 v7 v8 v20 v26 v32 v37 v53 v65) S) v
def u93_30 (C : CU) : CdU W13 := fun v S κ => W13.rec (motive := fun _ => RU) (fun v0 v1 v4 v5 v6 v7 v8 v20 v26 v32 v37 v53 v65 => 
 uCall C 54 [v6, (.s []), v7, v8] S fun v66 S =>
 κ .normal (.mk v0 v1 v66 v5 v6 v7 v8 v20 v26 v32 v37 v53 v65) S) v
def u93r (v : W13) (S : FAW) : RU := W13.rec (motive := fun _ => RU) (fun v0 v1 v4 v5 v6 v7 v8 v20 v26 v32 v37 v53 v65 => .ok v4 S) v
def u93 : Fu := fun C n args S => (seqU (u93_0 C) (seqU (u93_1 C) (seqU (seqU (u93_2 C) (condU u93_3 (seqU (u93_4 C) (seqU (u93_5 C) (retU))) (skipU))) (seqU (u93_6 C) (seqU (blockU 0 (seqU (u93_7 C) (condU u93_8 (seqU (u93_9 C) (seqU (u93_10 C) (retU))) (seqU (u93_11 C) (condU u93_12 (seqU (u93_13 C) (retU)) (seqU (u93_14 C) (condU u93_15 (seqU (u93_16 C) (seqU (u93_17 C) (retU))) (skipU)))))))) (seqU (seqU (u93_18 C) (condU u93_19 (seqU (u93_20 C) (seqU (u93_21 C) (retU))) (skipU))) (seqU (u93_22 C) (seqU (u93_23 C) (seqU (u93_24 C) (seqU (seqU (u93_25 C) (condU u93_26 (seqU (u93_27 C) (u93_28 C)) (skipU))) (seqU (u93_29 C) (seqU (u93_30 C) (retU)))))))))))) : CdU W13) (.mk (argU args 0) (argU args 1) (argU args 4) (argU args 5) (argU args 6) (argU args 7) (argU args 8) (argU args 20) (argU args 26) (argU args 32) (argU args 37) (argU args 53) (argU args 65)) S fun o v S => exU o (u93r v S) (fun _ => .no) (u93r v S)
/-! (*assayer/assayerref5.parser).plain -/
def u94_0 (C : CU) : CdU W4 := fun v S κ => W4.rec (motive := fun _ => RU) (fun v0 v2 v3 v21 => 
 κ .normal (.mk v0 (.s []) v3 v21) S) v
def u94_1 (C : CU) : CdU W4 := fun v S κ => W4.rec (motive := fun _ => RU) (fun v0 v2 v3 v21 => 
 uCall C 64 [v0] S fun v22 S =>
 uNewF 137 5 [(.n 0), (.s []), (.n 0), (.i .u64 0), (.n 0)] S fun v23 S =>
 uSt 5 v23 v22 S fun v24 S =>
 κ .normal (.mk v0 v2 v23 v21) S) v
def u94_2 (C : CU) : CdU W4 := fun v S κ => W4.rec (motive := fun _ => RU) (fun v0 v2 v3 v21 => 
 uGet 2 v0 S fun v24 S =>
 uEq true .neq v24 (.n 0) S fun v25 S =>
 eT v25 fun b => cn b
 (κ .normal (.mk v0 v2 v3 (.t true)) S)
 (uFad 0 v3 S fun v26 S =>
 uLd none v26 S fun v27 S =>
 uEq true .neq v27 (.n 1) S fun v28 S =>
 eT v28 fun b => cn b
 (κ .normal (.mk v0 v2 v3 (.t true)) S)
 (uFad 1 v3 S fun v29 S =>
 uLd none v29 S fun v30 S =>
 uCall C 18 [v30] S fun v31 S =>
 uNot v31 S fun v32 S =>
 κ .normal (.mk v0 v2 v3 v32) S))) v
def u94_3 : W4 → FV := fun v => W4.rec (motive := fun _ => FV) (fun v0 v2 v3 v21 => v21) v
def u94_4 (C : CU) : CdU W4 := fun v S κ => W4.rec (motive := fun _ => RU) (fun v0 v2 v3 v21 => 
 uCall C 66 [v0, (.n 2)] S fun v22 S =>
 κ .normal (.mk v0 v2 v3 v21) S) v
def u94_5 (C : CU) : CdU W4 := fun v S κ => W4.rec (motive := fun _ => RU) (fun v0 v2 v3 v21 => 
 κ .normal (.mk v0 (.s []) v3 v21) S) v
def u94_6 (C : CU) : CdU W4 := fun v S κ => W4.rec (motive := fun _ => RU) (fun v0 v2 v3 v21 => 
 uCall C 90 [v0] S fun v22 S =>
 κ .normal (.mk v0 v2 v3 v21) S) v
def u94_7 (C : CU) : CdU W4 := fun v S κ => W4.rec (motive := fun _ => RU) (fun v0 v2 v3 v21 => 
 uFad 1 v3 S fun v22 S =>
 uLd none v22 S fun v23 S =>
 κ .normal (.mk v0 v23 v3 v21) S) v
def u94r (v : W4) (S : FAW) : RU := W4.rec (motive := fun _ => RU) (fun v0 v2 v3 v21 => .ok v2 S) v
def u94 : Fu := fun C n args S => (seqU (u94_0 C) (seqU (u94_1 C) (seqU (seqU (u94_2 C) (condU u94_3 (seqU (u94_4 C) (seqU (u94_5 C) (retU))) (skipU))) (seqU (u94_6 C) (seqU (u94_7 C) (retU))))) : CdU W4) (.mk (argU args 0) (argU args 2) (argU args 3) (argU args 21)) S fun o v S => exU o (u94r v S) (fun _ => .no) (u94r v S)
/-! (*assayer/assayerref5.parser).need -/
def u95_0 (C : CU) : CdU W3 := fun v S κ => W3.rec (motive := fun _ => RU) (fun v0 v1 v7 => 
 uCall C 123 [v0, v1] S fun v8 S =>
 uNot v8 S fun v9 S =>
 κ .normal (.mk v0 v1 v9) S) v
def u95_1 : W3 → FV := fun v => W3.rec (motive := fun _ => FV) (fun v0 v1 v7 => v7) v
def u95_2 (C : CU) : CdU W3 := fun v S κ => W3.rec (motive := fun _ => RU) (fun v0 v1 v7 => 
 uCall C 66 [v0, (.n 2)] S fun v8 S =>
 κ .normal (.mk v0 v1 v7) S) v
def u95_3 (C : CU) : CdU W3 := fun v S κ => W3.rec (motive := fun _ => RU) (fun v0 v1 v7 => 
 uCall C 90 [v0] S fun v8 S =>
 κ .normal (.mk v0 v1 v7) S) v
def u95r (v : W3) (S : FAW) : RU := W3.rec (motive := fun _ => RU) (fun v0 v1 v7 => .ok (.u []) S) v
def u95 : Fu := fun C n args S => (seqU (seqU (u95_0 C) (condU u95_1 (seqU (u95_2 C) (retU)) (skipU))) (u95_3 C) : CdU W3) (.mk (argU args 0) (argU args 1) (argU args 7)) S fun o v S => exU o (u95r v S) (fun _ => .no) (u95r v S)
/-! (*assayer/assayerref5.parser).constant -/
def u96_0 (C : CU) : CdU W11 := fun v S κ => W11.rec (motive := fun _ => RU) (fun v0 v1 v4 v5 v12 v14 v23 v32 v41 v53 v60 => 
 uNewF 55 5 [(.n 0), (.n 0), (.i .u64 0), (.s []), .nl] S fun v61 S =>
 κ .normal (.mk v0 v1 v61 v5 v12 v14 v23 v32 v41 v53 v60) S) v
def u96_1 (C : CU) : CdU W11 := fun v S κ => W11.rec (motive := fun _ => RU) (fun v0 v1 v4 v5 v12 v14 v23 v32 v41 v53 v60 => 
 uCall C 64 [v0] S fun v61 S =>
 uNewF 137 5 [(.n 0), (.s []), (.n 0), (.i .u64 0), (.n 0)] S fun v62 S =>
 uSt 5 v62 v61 S fun v63 S =>
 κ .normal (.mk v0 v1 v4 v62 v12 v14 v23 v32 v41 v53 v60) S) v
def u96_2 (C : CU) : CdU W11 := fun v S κ => W11.rec (motive := fun _ => RU) (fun v0 v1 v4 v5 v12 v14 v23 v32 v41 v53 v60 => 
 uGet 2 v0 S fun v63 S =>
 uEq true .neq v63 (.n 0) S fun v64 S =>
 κ .normal (.mk v0 v1 v4 v5 v64 v14 v23 v32 v41 v53 v60) S) v
def u96_3 : W11 → FV := fun v => W11.rec (motive := fun _ => FV) (fun v0 v1 v4 v5 v12 v14 v23 v32 v41 v53 v60 => v12) v
def u96_4 (C : CU) : CdU W11 := fun v S κ => W11.rec (motive := fun _ => RU) (fun v0 v1 v4 v5 v12 v14 v23 v32 v41 v53 v60 => 
 uBuildF [(.n 0), (.n 0), (.i .u64 0), (.s []), .nl] [] S fun v61 S =>
 uSt 5 v4 v61 S fun v62 S =>
 κ .normal (.mk v0 v1 v4 v5 v12 v14 v23 v32 v41 v53 v60) S) v
def u96_5 (C : CU) : CdU W11 := fun v S κ => W11.rec (motive := fun _ => RU) (fun v0 v1 v4 v5 v12 v14 v23 v32 v41 v53 v60 => 
 uFad 0 v5 S fun v61 S =>
 uLd none v61 S fun v62 S =>
 uEq false .eql v62 (.n 2) S fun v63 S =>
 κ .normal (.mk v0 v1 v4 v5 v12 v63 v23 v32 v41 v53 v60) S) v
def u96_6 : W11 → FV := fun v => W11.rec (motive := fun _ => FV) (fun v0 v1 v4 v5 v12 v14 v23 v32 v41 v53 v60 => v14) v
def u96_7 (C : CU) : CdU W11 := fun v S κ => W11.rec (motive := fun _ => RU) (fun v0 v1 v4 v5 v12 v14 v23 v32 v41 v53 v60 => 
 uCall C 90 [v0] S fun v61 S =>
 κ .normal (.mk v0 v1 v4 v5 v12 v14 v23 v32 v41 v53 v60) S) v
def u96_8 (C : CU) : CdU W11 := fun v S κ => W11.rec (motive := fun _ => RU) (fun v0 v1 v4 v5 v12 v14 v23 v32 v41 v53 v60 => 
 uFad 2 v5 S fun v61 S =>
 uLd none v61 S fun v62 S =>
 uBuildF [(.n 0), (.n 0), (.i .u64 0), (.s []), .nl] [(0, 1, (.n 1)), (1, 1, v62)] S fun v63 S =>
 uSt 5 v4 v63 S fun v64 S =>
 κ .normal (.mk v0 v1 v4 v5 v12 v14 v23 v32 v41 v53 v60) S) v
def u96_9 (C : CU) : CdU W11 := fun v S κ => W11.rec (motive := fun _ => RU) (fun v0 v1 v4 v5 v12 v14 v23 v32 v41 v53 v60 => 
 uFad 0 v5 S fun v61 S =>
 uLd none v61 S fun v62 S =>
 uEq false .eql v62 (.n 3) S fun v63 S =>
 κ .normal (.mk v0 v1 v4 v5 v12 v14 v63 v32 v41 v53 v60) S) v
def u96_10 : W11 → FV := fun v => W11.rec (motive := fun _ => FV) (fun v0 v1 v4 v5 v12 v14 v23 v32 v41 v53 v60 => v23) v
def u96_11 (C : CU) : CdU W11 := fun v S κ => W11.rec (motive := fun _ => RU) (fun v0 v1 v4 v5 v12 v14 v23 v32 v41 v53 v60 => 
 uCall C 90 [v0] S fun v61 S =>
 κ .normal (.mk v0 v1 v4 v5 v12 v14 v23 v32 v41 v53 v60) S) v
def u96_12 (C : CU) : CdU W11 := fun v S κ => W11.rec (motive := fun _ => RU) (fun v0 v1 v4 v5 v12 v14 v23 v32 v41 v53 v60 => 
 uFad 3 v5 S fun v61 S =>
 uLd none v61 S fun v62 S =>
 uBuildF [(.n 0), (.n 0), (.i .u64 0), (.s []), .nl] [(0, 1, (.n 2)), (2, 1, v62)] S fun v63 S =>
 uSt 5 v4 v63 S fun v64 S =>
 κ .normal (.mk v0 v1 v4 v5 v12 v14 v23 v32 v41 v53 v60) S) v
def u96_13 (C : CU) : CdU W11 := fun v S κ => W11.rec (motive := fun _ => RU) (fun v0 v1 v4 v5 v12 v14 v23 v32 v41 v53 v60 => 
 uFad 0 v5 S fun v61 S =>
 uLd none v61 S fun v62 S =>
 uEq false .eql v62 (.n 4) S fun v63 S =>
 κ .normal (.mk v0 v1 v4 v5 v12 v14 v23 v63 v41 v53 v60) S) v
def u96_14 : W11 → FV := fun v => W11.rec (motive := fun _ => FV) (fun v0 v1 v4 v5 v12 v14 v23 v32 v41 v53 v60 => v32) v
def u96_15 (C : CU) : CdU W11 := fun v S κ => W11.rec (motive := fun _ => RU) (fun v0 v1 v4 v5 v12 v14 v23 v32 v41 v53 v60 => 
 uCall C 90 [v0] S fun v61 S =>
 κ .normal (.mk v0 v1 v4 v5 v12 v14 v23 v32 v41 v53 v60) S) v
def u96_16 (C : CU) : CdU W11 := fun v S κ => W11.rec (motive := fun _ => RU) (fun v0 v1 v4 v5 v12 v14 v23 v32 v41 v53 v60 => 
 uFad 1 v5 S fun v61 S =>
 uLd none v61 S fun v62 S =>
 uBuildF [(.n 0), (.n 0), (.i .u64 0), (.s []), .nl] [(0, 1, (.n 3)), (3, 1, v62)] S fun v63 S =>
 uSt 5 v4 v63 S fun v64 S =>
 κ .normal (.mk v0 v1 v4 v5 v12 v14 v23 v32 v41 v53 v60) S) v
def u96_17 (C : CU) : CdU W11 := fun v S κ => W11.rec (motive := fun _ => RU) (fun v0 v1 v4 v5 v12 v14 v23 v32 v41 v53 v60 => 
 uCall C 88 [v0, (.s [116, 114, 117, 101])] S fun v61 S =>
 eT v61 fun b => cn b
 (κ .normal (.mk v0 v1 v4 v5 v12 v14 v23 v32 (.t true) v53 v60) S)
 (uCall C 88 [v0, (.s [102, 97, 108, 115, 101])] S fun v62 S =>
 κ .normal (.mk v0 v1 v4 v5 v12 v14 v23 v32 v62 v53 v60) S)) v
def u96_18 : W11 → FV := fun v => W11.rec (motive := fun _ => FV) (fun v0 v1 v4 v5 v12 v14 v23 v32 v41 v53 v60 => v41) v
def u96_19 (C : CU) : CdU W11 := fun v S κ => W11.rec (motive := fun _ => RU) (fun v0 v1 v4 v5 v12 v14 v23 v32 v41 v53 v60 => 
 uCall C 90 [v0] S fun v61 S =>
 κ .normal (.mk v0 v1 v4 v5 v12 v14 v23 v32 v41 v53 v60) S) v
def u96_20 (C : CU) : CdU W11 := fun v S κ => W11.rec (motive := fun _ => RU) (fun v0 v1 v4 v5 v12 v14 v23 v32 v41 v53 v60 => 
 uFad 1 v5 S fun v61 S =>
 uLd none v61 S fun v62 S =>
 uBuildF [(.n 0), (.n 0), (.i .u64 0), (.s []), .nl] [(0, 1, (.n 4)), (3, 1, v62)] S fun v63 S =>
 uSt 5 v4 v63 S fun v64 S =>
 κ .normal (.mk v0 v1 v4 v5 v12 v14 v23 v32 v41 v53 v60) S) v
def u96_21 (C : CU) : CdU W11 := fun v S κ => W11.rec (motive := fun _ => RU) (fun v0 v1 v4 v5 v12 v14 v23 v32 v41 v53 v60 => 
 uFad 0 v5 S fun v61 S =>
 uLd none v61 S fun v62 S =>
 uEq false .eql v62 (.n 1) S fun v63 S =>
 κ .normal (.mk v0 v1 v4 v5 v12 v14 v23 v32 v41 v63 v60) S) v
def u96_22 : W11 → FV := fun v => W11.rec (motive := fun _ => FV) (fun v0 v1 v4 v5 v12 v14 v23 v32 v41 v53 v60 => v53) v
def u96_23 (C : CU) : CdU W11 := fun v S κ => W11.rec (motive := fun _ => RU) (fun v0 v1 v4 v5 v12 v14 v23 v32 v41 v53 v60 => 
 uCall C 92 [v0] S fun v61 S =>
 uBuildF [(.n 0), (.n 0), (.i .u64 0), (.s []), .nl] [(0, 1, (.n 4)), (3, 1, v61)] S fun v62 S =>
 uSt 5 v4 v62 S fun v63 S =>
 κ .normal (.mk v0 v1 v4 v5 v12 v14 v23 v32 v41 v53 v60) S) v
def u96_24 (C : CU) : CdU W11 := fun v S κ => W11.rec (motive := fun _ => RU) (fun v0 v1 v4 v5 v12 v14 v23 v32 v41 v53 v60 => 
 uCall C 123 [v0, (.s [91])] S fun v61 S =>
 eT v61 fun b => cn b
 (κ .normal (.mk v0 v1 v4 v5 v12 v14 v23 v32 v41 v53 (.t true)) S)
 (uCall C 123 [v0, (.s [123])] S fun v62 S =>
 κ .normal (.mk v0 v1 v4 v5 v12 v14 v23 v32 v41 v53 v62) S)) v
def u96_25 : W11 → FV := fun v => W11.rec (motive := fun _ => FV) (fun v0 v1 v4 v5 v12 v14 v23 v32 v41 v53 v60 => v60) v
def u96_26 (C : CU) : CdU W11 := fun v S κ => W11.rec (motive := fun _ => RU) (fun v0 v1 v4 v5 v12 v14 v23 v32 v41 v53 v60 => 
 uCall C 125 [v0, v1] S fun v61 S =>
 uSt 5 v4 v61 S fun v62 S =>
 κ .normal (.mk v0 v1 v4 v5 v12 v14 v23 v32 v41 v53 v60) S) v
def u96_27 (C : CU) : CdU W11 := fun v S κ => W11.rec (motive := fun _ => RU) (fun v0 v1 v4 v5 v12 v14 v23 v32 v41 v53 v60 => 
 uCall C 66 [v0, (.n 2)] S fun v61 S =>
 κ .normal (.mk v0 v1 v4 v5 v12 v14 v23 v32 v41 v53 v60) S) v
def u96_28 (C : CU) : CdU W11 := fun v S κ => W11.rec (motive := fun _ => RU) (fun v0 v1 v4 v5 v12 v14 v23 v32 v41 v53 v60 => 
 uBuildF [(.n 0), (.n 0), (.i .u64 0), (.s []), .nl] [] S fun v61 S =>
 uSt 5 v4 v61 S fun v62 S =>
 κ .normal (.mk v0 v1 v4 v5 v12 v14 v23 v32 v41 v53 v60) S) v
def u96r (v : W11) (S : FAW) : RU := W11.rec (motive := fun _ => RU) (fun v0 v1 v4 v5 v12 v14 v23 v32 v41 v53 v60 => uLd (some 5) v4 S fun r4 _ => .ok r4 S) v
def u96 : Fu := fun C n args S => (seqU (u96_0 C) (seqU (u96_1 C) (seqU (seqU (u96_2 C) (condU u96_3 (seqU (u96_4 C) (retU)) (skipU))) (seqU (blockU 0 (seqU (u96_5 C) (condU u96_6 (seqU (u96_7 C) (seqU (u96_8 C) (retU))) (seqU (u96_9 C) (condU u96_10 (seqU (u96_11 C) (seqU (u96_12 C) (retU))) (seqU (u96_13 C) (condU u96_14 (seqU (u96_15 C) (seqU (u96_16 C) (retU))) (seqU (u96_17 C) (condU u96_18 (seqU (u96_19 C) (seqU (u96_20 C) (retU))) (seqU (u96_21 C) (condU u96_22 (seqU (u96_23 C) (retU)) (seqU (u96_24 C) (condU u96_25 (seqU (u96_26 C) (retU)) (skipU)))))))))))))) (seqU (u96_27 C) (seqU (u96_28 C) (retU)))))) : CdU W11) (.mk (argU args 0) (argU args 1) (argU args 4) (argU args 5) (argU args 12) (argU args 14) (argU args 23) (argU args 32) (argU args 41) (argU args 53) (argU args 60)) S fun o v S => exU o (u96r v S) (fun _ => .no) (u96r v S)
/-! (*assayer/assayerref5.parser).members -/
def u97_0 (C : CU) : CdU W8 := fun v S κ => W8.rec (motive := fun _ => RU) (fun v0 v2 v3 v4 v14 v29 v36 v47 => 
 κ .normal (.mk v0 .nl v3 v4 v14 v29 v36 v47) S) v
def u97_1 (C : CU) : CdU W8 := fun v S κ => W8.rec (motive := fun _ => RU) (fun v0 v2 v3 v4 v14 v29 v36 v47 => 
 κ .normal (.mk v0 v2 .nl v4 v14 v29 v36 v47) S) v
def u97_2 (C : CU) : CdU W8 := fun v S κ => W8.rec (motive := fun _ => RU) (fun v0 v2 v3 v4 v14 v29 v36 v47 => 
 uGet 2 v0 S fun v50 S =>
 uEq false .eql v50 (.n 0) S fun v51 S =>
 eT v51 fun b => cn b
 (uCall C 123 [v0, (.s [125])] S fun v52 S =>
 uNot v52 S fun v53 S =>
 κ .normal (.mk v0 v2 v3 v4 v53 v29 v36 v47) S)
 (κ .normal (.mk v0 v2 v3 v4 (.t false) v29 v36 v47) S)) v
def u97_3 : W8 → FV := fun v => W8.rec (motive := fun _ => FV) (fun v0 v2 v3 v4 v14 v29 v36 v47 => v14) v
def u97_4 (C : CU) : CdU W8 := fun v S κ => W8.rec (motive := fun _ => RU) (fun v0 v2 v3 v4 v14 v29 v36 v47 => 
 uLen false v3 S fun v48 S =>
 uEq false .eql v48 (.n 30) S fun v49 S =>
 eT v49 fun b => cn b
 (uCall C 64 [v0] S fun v50 S =>
 uFld none 0 v50 S fun v51 S =>
 uEq false .eql v51 (.n 1) S fun v52 S =>
 eT v52 fun b => cn b
 (uCall C 64 [v0] S fun v53 S =>
 uFld none 1 v53 S fun v54 S =>
 uCall C 18 [v54] S fun v55 S =>
 κ .normal (.mk v0 v2 v3 v4 v14 v55 v36 v47) S)
 (κ .normal (.mk v0 v2 v3 v4 v14 (.t false) v36 v47) S))
 (κ .normal (.mk v0 v2 v3 v4 v14 (.t false) v36 v47) S)) v
def u97_5 : W8 → FV := fun v => W8.rec (motive := fun _ => FV) (fun v0 v2 v3 v4 v14 v29 v36 v47 => v29) v
def u97_6 (C : CU) : CdU W8 := fun v S κ => W8.rec (motive := fun _ => RU) (fun v0 v2 v3 v4 v14 v29 v36 v47 => 
 uCall C 66 [v0, (.n 4)] S fun v48 S =>
 κ .normal (.mk v0 v2 v3 v4 v14 v29 v36 v47) S) v
def u97_7 (C : CU) : CdU W8 := fun v S κ => W8.rec (motive := fun _ => RU) (fun v0 v2 v3 v4 v14 v29 v36 v47 => 
 uCall C 94 [v0] S fun v48 S =>
 uBuildF [(.s []), (.t false), (.n 0)] [(0, 1, v48)] S fun v49 S =>
 uNewF 148 3 [(.s []), (.t false), (.n 0)] S fun v50 S =>
 uSt 3 v50 v49 S fun v51 S =>
 κ .normal (.mk v0 v2 v3 v50 v14 v29 v36 v47) S) v
def u97_8 (C : CU) : CdU W8 := fun v S κ => W8.rec (motive := fun _ => RU) (fun v0 v2 v3 v4 v14 v29 v36 v47 => 
 uCall C 91 [v0, (.s [61])] S fun v48 S =>
 κ .normal (.mk v0 v2 v3 v4 v14 v29 v48 v47) S) v
def u97_9 : W8 → FV := fun v => W8.rec (motive := fun _ => FV) (fun v0 v2 v3 v4 v14 v29 v36 v47 => v36) v
def u97_10 (C : CU) : CdU W8 := fun v S κ => W8.rec (motive := fun _ => RU) (fun v0 v2 v3 v4 v14 v29 v36 v47 => 
 uGet 2 v0 S fun v50 S =>
 uEq false .eql v50 (.n 0) S fun v51 S =>
 eT v51 fun b => cn b
 (uCall C 64 [v0] S fun v52 S =>
 uFld none 0 v52 S fun v53 S =>
 uEq true .neq v53 (.n 2) S fun v54 S =>
 κ .normal (.mk v0 v2 v3 v4 v14 v29 v36 v54) S)
 (κ .normal (.mk v0 v2 v3 v4 v14 v29 v36 (.t false)) S)) v
def u97_11 : W8 → FV := fun v => W8.rec (motive := fun _ => FV) (fun v0 v2 v3 v4 v14 v29 v36 v47 => v47) v
def u97_12 (C : CU) : CdU W8 := fun v S κ => W8.rec (motive := fun _ => RU) (fun v0 v2 v3 v4 v14 v29 v36 v47 => 
 uCall C 66 [v0, (.n 2)] S fun v48 S =>
 κ .normal (.mk v0 v2 v3 v4 v14 v29 v36 v47) S) v
def u97_13 (C : CU) : CdU W8 := fun v S κ => W8.rec (motive := fun _ => RU) (fun v0 v2 v3 v4 v14 v29 v36 v47 => 
 uCall C 64 [v0] S fun v48 S =>
 uFld none 2 v48 S fun v49 S =>
 uFad 1 v4 S fun v50 S =>
 uSt 1 v50 (.t true) S fun v51 S =>
 uFad 2 v4 S fun v52 S =>
 uSt 1 v52 v49 S fun v53 S =>
 κ .normal (.mk v0 v2 v3 v4 v14 v29 v36 v47) S) v
def u97_14 (C : CU) : CdU W8 := fun v S κ => W8.rec (motive := fun _ => RU) (fun v0 v2 v3 v4 v14 v29 v36 v47 => 
 uCall C 90 [v0] S fun v48 S =>
 κ .normal (.mk v0 v2 v3 v4 v14 v29 v36 v47) S) v
def u97_15 (C : CU) : CdU W8 := fun v S κ => W8.rec (motive := fun _ => RU) (fun v0 v2 v3 v4 v14 v29 v36 v47 => 
 uCall C 100 [v0] S fun v48 S =>
 κ .normal (.mk v0 v2 v3 v4 v14 v29 v36 v47) S) v
def u97_16 (C : CU) : CdU W8 := fun v S κ => W8.rec (motive := fun _ => RU) (fun v0 v2 v3 v4 v14 v29 v36 v47 => 
 uLd (some 3) v4 S fun v48 S =>
 uLitF 148 3 [(.s []), (.t false), (.n 0)] 1 [(0, 3, v48)] S fun v49 S =>
 uApp 148 3 32 v3 v49 S fun v50 S =>
 κ .normal (.mk v0 v2 v50 v4 v14 v29 v36 v47) S) v
def u97_17 (C : CU) (n : Nat) : CdU W8 := seqU (seqU (u97_2 C) (condU u97_3 (skipU) (exitU 0))) (blockU 1 (seqU (seqU (u97_4 C) (condU u97_5 (seqU (u97_6 C) (exitU 0)) (skipU))) (seqU (u97_7 C) (seqU (seqU (u97_8 C) (condU u97_9 (seqU (u97_10 C) (condU u97_11 (u97_12 C) (seqU (u97_13 C) (u97_14 C)))) (skipU))) (seqU (u97_15 C) (u97_16 C))))))
def u97_18 (C : CU) : CdU W8 := fun v S κ => W8.rec (motive := fun _ => RU) (fun v0 v2 v3 v4 v14 v29 v36 v47 => 
 uCall C 95 [v0, (.s [125])] S fun v48 S =>
 κ .normal (.mk v0 v2 v3 v4 v14 v29 v36 v47) S) v
def u97_19 (C : CU) : CdU W8 := fun v S κ => W8.rec (motive := fun _ => RU) (fun v0 v2 v3 v4 v14 v29 v36 v47 => 
 κ .normal (.mk v0 v3 v3 v4 v14 v29 v36 v47) S) v
def u97r (v : W8) (S : FAW) : RU := W8.rec (motive := fun _ => RU) (fun v0 v2 v3 v4 v14 v29 v36 v47 => .ok v2 S) v
def u97 : Fu := fun C n args S => (seqU (u97_0 C) (seqU (u97_1 C) (seqU (blockU 0 (loopU n (u97_17 C n))) (seqU (u97_18 C) (seqU (u97_19 C) (retU))))) : CdU W8) (.mk (argU args 0) (argU args 2) (argU args 3) (argU args 4) (argU args 14) (argU args 29) (argU args 36) (argU args 47)) S fun o v S => exU o (u97r v S) (fun _ => .no) (u97r v S)
end
end Go.Proofs.YtkcafoogpbopiaaGreatDoor.Ev
