/- Functions of the program, each told by what goes on behind each step: printed by a program of ours. -/
import Derived.Test.YtbngpadibllogaaGreatDoorScopeT0
namespace Go.Proofs.YtbngpadibllogaaGreatDoor.Ev
open Go Go.RowKit
set_option linter.unusedVariables false
/-! assayer/assayerref5.Far -/
def c89_0 (C : Callee) : Cd V8 := fun v S κ => (V8.casesOn v fun v0 v2 v3 v4 v5 v9 v15 v25 => 
  κ .normal (V8.mk v0 (.bool false) v3 v4 v5 v9 v15 v25) S)
def c89_1 (C : Callee) : Cd V8 := fun v S κ => (V8.casesOn v fun v0 v2 v3 v4 v5 v9 v15 v25 => 
  κ .normal (V8.mk v0 v2 (.int .i64 1) (.string ⟨#[]⟩) v5 v9 v15 v25) S)
def c89_2 (C : Callee) : Cd V8 := fun v S κ => (V8.casesOn v fun v0 v2 v3 v4 v5 v9 v15 v25 => 
  κ .normal (V8.mk v0 v2 v3 v4 (.int .i64 0) v9 v15 v25) S)
def c89_3 (C : Callee) : Cd V8 := fun v S κ => (V8.casesOn v fun v0 v2 v3 v4 v5 v9 v15 v25 => 
  kLen true v0 S fun v26 S26 =>
  kBin .lss v5 v26 S26 fun v27 S27 =>
  κ .normal (V8.mk v0 v2 v3 v4 v5 v27 v15 v25) S27)
def c89_4 : V8 → Value := fun v => (V8.casesOn v fun v0 v2 v3 v4 v5 v9 v15 v25 => v9)
def c89_5 (C : Callee) : Cd V8 := fun v S κ => (V8.casesOn v fun v0 v2 v3 v4 v5 v9 v15 v25 => 
  kIdxS v0 v5 S fun v26 S26 =>
  kBin .neq v26 (.int .u8 46) S26 fun v27 S27 =>
  κ .normal (V8.mk v0 v2 v3 v4 v5 v9 v27 v25) S27)
def c89_6 : V8 → Value := fun v => (V8.casesOn v fun v0 v2 v3 v4 v5 v9 v15 v25 => v15)
def c89_7 (C : Callee) : Cd V8 := fun v S κ => (V8.casesOn v fun v0 v2 v3 v4 v5 v9 v15 v25 => 
  kBin .add v5 (.int .i64 1) S fun v26 S26 =>
  kSlS v0 (some v5) (some v26) S26 fun v27 S27 =>
  kBin .add v4 v27 S27 fun v28 S28 =>
  κ .normal (V8.mk v0 v2 v3 v28 v5 v9 v15 v25) S28)
def c89_8 (C : Callee) : Cd V8 := fun v S κ => (V8.casesOn v fun v0 v2 v3 v4 v5 v9 v15 v25 => 
  kCall C 15 [v4] S fun v26 S26 =>
  kUn .not v26 S26 fun v27 S27 =>
  κ .normal (V8.mk v0 v2 v3 v4 v5 v9 v15 v27) S27)
def c89_9 : V8 → Value := fun v => (V8.casesOn v fun v0 v2 v3 v4 v5 v9 v15 v25 => v25)
def c89_10 (C : Callee) : Cd V8 := fun v S κ => (V8.casesOn v fun v0 v2 v3 v4 v5 v9 v15 v25 => 
  κ .normal (V8.mk v0 (.bool false) v3 v4 v5 v9 v15 v25) S)
def c89_11 (C : Callee) : Cd V8 := fun v S κ => (V8.casesOn v fun v0 v2 v3 v4 v5 v9 v15 v25 => 
  kBin .add v3 (.int .i64 1) S fun v26 S26 =>
  κ .normal (V8.mk v0 v2 v26 (.string ⟨#[]⟩) v5 v9 v15 v25) S26)
def c89_12 (C : Callee) : Cd V8 := fun v S κ => (V8.casesOn v fun v0 v2 v3 v4 v5 v9 v15 v25 => 
  kBin .add v5 (.int .i64 1) S fun v26 S26 =>
  κ .normal (V8.mk v0 v2 v3 v4 v26 v9 v15 v25) S26)
def c89_13 (C : Callee) (n : Nat) : Cd V8 := seqK (seqK (c89_3 C) (condK c89_4 (skipK) (exitK 0))) (seqK (blockK 1 (seqK (seqK (c89_5 C) (condK c89_6 (seqK (c89_7 C) (exitK 1)) (skipK))) (seqK (seqK (c89_8 C) (condK c89_9 (seqK (c89_10 C) (retK)) (skipK))) (c89_11 C)))) (c89_12 C))
def c89_14 (C : Callee) : Cd V8 := fun v S κ => (V8.casesOn v fun v0 v2 v3 v4 v5 v9 v15 v25 => 
  kBin .leq v3 (.int .i64 3) S fun v26 S26 =>
  bl v26 fun b => cond b
   (kCall C 15 [v4] S26 fun v27 S27 =>
   κ .normal (V8.mk v0 v27 v3 v4 v5 v9 v15 v25) S27)
   (κ .normal (V8.mk v0 (.bool false) v3 v4 v5 v9 v15 v25) S26))
/-- assayer/assayerref5.Far -/
def c89 (C : Callee) (n : Nat) : Cd V8 := seqK (c89_0 C) (seqK (c89_1 C) (seqK (seqK (c89_2 C) (blockK 0 (loopK n (c89_13 C n)))) (seqK (c89_14 C) (retK))))
def r89 (v : V8) (S : AW) : R := (V8.casesOn v fun v0 v2 v3 v4 v5 v9 v15 v25 => some (v2, S))
def g89 (C : Callee) (n : Nat) (args : List Value) (S : AW) : R := c89 C n (V8.mk (argV args 0) (argV args 2) (argV args 3) (argV args 4) (argV args 5) (argV args 9) (argV args 15) (argV args 25)) S fun o v S => EX.casesOn o (r89 v S) (fun _ => none) (r89 v S)
/-! assayer/assayerref5.ShowType -/
def c90_0 (C : Callee) : Cd V9 := fun v S κ => (V9.casesOn v fun v0 v1 v2 v3 v8 v9 v10 v13 v22 => 
  κ .normal (V9.mk v0 v1 v2 v3 (.string ⟨#[]⟩) v9 v10 v13 v22) S)
def c90_1 (C : Callee) : Cd V9 := fun v S κ => (V9.casesOn v fun v0 v1 v2 v3 v8 v9 v10 v13 v22 => 
  κ .normal (V9.mk v0 v1 v2 v3 v8 v0 v10 v13 v22) S)
def c90_2 (C : Callee) : Cd V9 := fun v S κ => (V9.casesOn v fun v0 v1 v2 v3 v8 v9 v10 v13 v22 => 
  kBin .eql v9 (.int .i64 0) S fun v23 S23 =>
  κ .normal (V9.mk v0 v1 v2 v3 v8 v9 v23 v13 v22) S23)
def c90_3 : V9 → Value := fun v => (V9.casesOn v fun v0 v1 v2 v3 v8 v9 v10 v13 v22 => v10)
def c90_4 (C : Callee) : Cd V9 := fun v S κ => (V9.casesOn v fun v0 v1 v2 v3 v8 v9 v10 v13 v22 => 
  κ .normal (V9.mk v0 v1 v2 v3 v1 v9 v10 v13 v22) S)
def c90_5 (C : Callee) : Cd V9 := fun v S κ => (V9.casesOn v fun v0 v1 v2 v3 v8 v9 v10 v13 v22 => 
  kBin .eql v9 (.int .i64 15) S fun v23 S23 =>
  κ .normal (V9.mk v0 v1 v2 v3 v8 v9 v10 v23 v22) S23)
def c90_6 : V9 → Value := fun v => (V9.casesOn v fun v0 v1 v2 v3 v8 v9 v10 v13 v22 => v13)
def c90_7 (C : Callee) : Cd V9 := fun v S κ => (V9.casesOn v fun v0 v1 v2 v3 v8 v9 v10 v13 v22 => 
  kBin .eql v9 (.int .i64 14) S fun v23 S23 =>
  κ .normal (V9.mk v0 v1 v2 v3 v8 v9 v10 v23 v22) S23)
def c90_8 : V9 → Value := fun v => (V9.casesOn v fun v0 v1 v2 v3 v8 v9 v10 v13 v22 => v13)
def c90_9 (C : Callee) : Cd V9 := fun v S κ => (V9.casesOn v fun v0 v1 v2 v3 v8 v9 v10 v13 v22 => 
  kCall C 109 [v0] S fun v23 S23 =>
  kBin .add v23 (.string ⟨#[60]⟩) S23 fun v24 S24 =>
  kBin .add v24 v2 S24 fun v25 S25 =>
  kBin .add v25 (.string ⟨#[62]⟩) S25 fun v26 S26 =>
  κ .normal (V9.mk v0 v1 v2 v3 v26 v9 v10 v13 v22) S26)
def c90_10 (C : Callee) : Cd V9 := fun v S κ => (V9.casesOn v fun v0 v1 v2 v3 v8 v9 v10 v13 v22 => 
  kBin .eql v9 (.int .i64 13) S fun v23 S23 =>
  κ .normal (V9.mk v0 v1 v2 v3 v8 v9 v10 v13 v23) S23)
def c90_11 : V9 → Value := fun v => (V9.casesOn v fun v0 v1 v2 v3 v8 v9 v10 v13 v22 => v22)
def c90_12 (C : Callee) : Cd V9 := fun v S κ => (V9.casesOn v fun v0 v1 v2 v3 v8 v9 v10 v13 v22 => 
  kBin .add (.string ⟨#[109, 97, 112, 60]⟩) v2 S fun v23 S23 =>
  kBin .add v23 (.string ⟨#[44]⟩) S23 fun v24 S24 =>
  kBin .add v24 v3 S24 fun v25 S25 =>
  kBin .add v25 (.string ⟨#[62]⟩) S25 fun v26 S26 =>
  κ .normal (V9.mk v0 v1 v2 v3 v26 v9 v10 v13 v22) S26)
def c90_13 (C : Callee) : Cd V9 := fun v S κ => (V9.casesOn v fun v0 v1 v2 v3 v8 v9 v10 v13 v22 => 
  kCall C 109 [v0] S fun v23 S23 =>
  κ .normal (V9.mk v0 v1 v2 v3 v23 v9 v10 v13 v22) S23)
/-- assayer/assayerref5.ShowType -/
def c90 (C : Callee) (n : Nat) : Cd V9 := seqK (c90_0 C) (seqK (seqK (c90_1 C) (blockK 0 (seqK (c90_2 C) (condK c90_3 (seqK (c90_4 C) (retK)) (seqK (seqK (c90_5 C) (condK c90_6 (skipK) (c90_7 C))) (condK c90_8 (seqK (c90_9 C) (retK)) (seqK (c90_10 C) (condK c90_11 (seqK (c90_12 C) (retK)) (skipK))))))))) (seqK (c90_13 C) (retK)))
def r90 (v : V9) (S : AW) : R := (V9.casesOn v fun v0 v1 v2 v3 v8 v9 v10 v13 v22 => some (v8, S))
def g90 (C : Callee) (n : Nat) (args : List Value) (S : AW) : R := c90 C n (V9.mk (argV args 0) (argV args 1) (argV args 2) (argV args 3) (argV args 8) (argV args 9) (argV args 10) (argV args 13) (argV args 22)) S fun o v S => EX.casesOn o (r90 v S) (fun _ => none) (r90 v S)
/-! (*assayer/assayerref5.parser).items -/
def c91_0 (C : Callee) : Cd V11 := fun v S κ => (V11.casesOn v fun v0 v1 v4 v5 v6 v7 v9 v15 v29 v37 v50 => 
  kNew 46 5 [.int .i64 0, .int .i64 0, .int .u64 0, .string ⟨#[]⟩, .slice none 0 0] S fun v51 S51 =>
  κ .normal (V11.mk v0 v1 v51 v5 v6 v7 v9 v15 v29 v37 v50) S51)
def c91_1 (C : Callee) : Cd V11 := fun v S κ => (V11.casesOn v fun v0 v1 v4 v5 v6 v7 v9 v15 v29 v37 v50 => 
  kBin .gtr v1 (.int .i64 12) S fun v51 S51 =>
  κ .normal (V11.mk v0 v1 v4 v5 v6 v7 v51 v15 v29 v37 v50) S51)
def c91_2 : V11 → Value := fun v => (V11.casesOn v fun v0 v1 v4 v5 v6 v7 v9 v15 v29 v37 v50 => v9)
def c91_3 (C : Callee) : Cd V11 := fun v S κ => (V11.casesOn v fun v0 v1 v4 v5 v6 v7 v9 v15 v29 v37 v50 => 
  kCall C 46 [v0, (.int .i64 6)] S fun v51 S51 =>
  κ .normal (V11.mk v0 v1 v4 v5 v6 v7 v9 v15 v29 v37 v50) S51)
def c91_4 (C : Callee) : Cd V11 := fun v S κ => (V11.casesOn v fun v0 v1 v4 v5 v6 v7 v9 v15 v29 v37 v50 => 
  kBuild [.int .i64 0, .int .i64 0, .int .u64 0, .string ⟨#[]⟩, .slice none 0 0] [] S fun v51 S51 =>
  kSt 5 v4 v51 S51 fun v52 S52 =>
  κ .normal (V11.mk v0 v1 v4 v5 v6 v7 v9 v15 v29 v37 v50) S52)
def c91_5 (C : Callee) : Cd V11 := fun v S κ => (V11.casesOn v fun v0 v1 v4 v5 v6 v7 v9 v15 v29 v37 v50 => 
  kBuild [.int .i64 0, .int .i64 0, .int .u64 0, .string ⟨#[]⟩, .slice none 0 0] [(0, 1, (.int .i64 5))] S fun v51 S51 =>
  kNew 46 5 [.int .i64 0, .int .i64 0, .int .u64 0, .string ⟨#[]⟩, .slice none 0 0] S51 fun v52 S52 =>
  kSt 5 v52 v51 S52 fun v53 S53 =>
  κ .normal (V11.mk v0 v1 v4 v52 v6 v7 v9 v15 v29 v37 v50) S53)
def c91_6 (C : Callee) : Cd V11 := fun v S κ => (V11.casesOn v fun v0 v1 v4 v5 v6 v7 v9 v15 v29 v37 v50 => 
  κ .normal (V11.mk v0 v1 v4 v5 (.string ⟨#[93]⟩) v7 v9 v15 v29 v37 v50) S)
def c91_7 (C : Callee) : Cd V11 := fun v S κ => (V11.casesOn v fun v0 v1 v4 v5 v6 v7 v9 v15 v29 v37 v50 => 
  kCall C 88 [v0, (.string ⟨#[123]⟩)] S fun v51 S51 =>
  κ .normal (V11.mk v0 v1 v4 v5 v6 v7 v9 v51 v29 v37 v50) S51)
def c91_8 : V11 → Value := fun v => (V11.casesOn v fun v0 v1 v4 v5 v6 v7 v9 v15 v29 v37 v50 => v15)
def c91_9 (C : Callee) : Cd V11 := fun v S κ => (V11.casesOn v fun v0 v1 v4 v5 v6 v7 v9 v15 v29 v37 v50 => 
  kFad 0 v5 S fun v51 S51 =>
  kSt 1 v51 (.int .i64 6) S51 fun v52 S52 =>
  κ .normal (V11.mk v0 v1 v4 v5 (.string ⟨#[125]⟩) v7 v9 v15 v29 v37 v50) S52)
def c91_10 (C : Callee) : Cd V11 := fun v S κ => (V11.casesOn v fun v0 v1 v4 v5 v6 v7 v9 v15 v29 v37 v50 => 
  kCall C 62 [v0] S fun v51 S51 =>
  κ .normal (V11.mk v0 v1 v4 v5 v6 v7 v9 v15 v29 v37 v50) S51)
def c91_11 (C : Callee) : Cd V11 := fun v S κ => (V11.casesOn v fun v0 v1 v4 v5 v6 v7 v9 v15 v29 v37 v50 => 
  κ .normal (V11.mk v0 v1 v4 v5 v6 (.int .i64 0) v9 v15 v29 v37 v50) S)
def c91_12 (C : Callee) : Cd V11 := fun v S κ => (V11.casesOn v fun v0 v1 v4 v5 v6 v7 v9 v15 v29 v37 v50 => 
  kNilc v0 S fun v51 S51 =>
  kFad 2 v51 S51 fun v52 S52 =>
  kLd none v52 S52 fun v53 S53 =>
  kBin .eql v53 (.int .i64 0) S53 fun v54 S54 =>
  bl v54 fun b => cond b
   (kCall C 88 [v0, v6] S54 fun v55 S55 =>
   kUn .not v55 S55 fun v56 S56 =>
   κ .normal (V11.mk v0 v1 v4 v5 v6 v7 v9 v15 v56 v37 v50) S56)
   (κ .normal (V11.mk v0 v1 v4 v5 v6 v7 v9 v15 (.bool false) v37 v50) S54))
def c91_13 : V11 → Value := fun v => (V11.casesOn v fun v0 v1 v4 v5 v6 v7 v9 v15 v29 v37 v50 => v29)
def c91_14 (C : Callee) : Cd V11 := fun v S κ => (V11.casesOn v fun v0 v1 v4 v5 v6 v7 v9 v15 v29 v37 v50 => 
  kBin .eql v7 (.int .i64 40) S fun v51 S51 =>
  bl v51 fun b => cond b
   (kCall C 110 [v0] S51 fun v52 S52 =>
   κ .normal (V11.mk v0 v1 v4 v5 v6 v7 v9 v15 v29 v52 v50) S52)
   (κ .normal (V11.mk v0 v1 v4 v5 v6 v7 v9 v15 v29 (.bool false) v50) S51))
def c91_15 : V11 → Value := fun v => (V11.casesOn v fun v0 v1 v4 v5 v6 v7 v9 v15 v29 v37 v50 => v37)
def c91_16 (C : Callee) : Cd V11 := fun v S κ => (V11.casesOn v fun v0 v1 v4 v5 v6 v7 v9 v15 v29 v37 v50 => 
  kCall C 46 [v0, (.int .i64 4)] S fun v51 S51 =>
  κ .normal (V11.mk v0 v1 v4 v5 v6 v7 v9 v15 v29 v37 v50) S51)
def c91_17 (C : Callee) : Cd V11 := fun v S κ => (V11.casesOn v fun v0 v1 v4 v5 v6 v7 v9 v15 v29 v37 v50 => 
  kFad 4 v5 S fun v51 S51 =>
  kLd none v51 S51 fun v52 S52 =>
  kBin .add v1 (.int .i64 1) S52 fun v53 S53 =>
  kLd none v51 S53 fun u _ => cond (veqB u v52)
   (kCall C 68 [v0, v53] S53 fun v54 S54 =>
   kLit 46 5 [.int .i64 0, .int .i64 0, .int .u64 0, .string ⟨#[]⟩, .slice none 0 0] 1 [(0, 5, v54)] S54 fun v55 S55 =>
   kLd none v51 S55 fun u _ => cond (veqB u v52)
    (kApp 46 5 64 v52 v55 S55 fun v56 S56 =>
    kFad 4 v5 S56 fun v57 S57 =>
    kSt 1 v57 v56 S57 fun v58 S58 =>
    κ .normal (V11.mk v0 v1 v4 v5 v6 v7 v9 v15 v29 v37 v50) S58) none) none)
def c91_18 (C : Callee) : Cd V11 := fun v S κ => (V11.casesOn v fun v0 v1 v4 v5 v6 v7 v9 v15 v29 v37 v50 => 
  kBin .eql v6 (.string ⟨#[125]⟩) S fun v51 S51 =>
  κ .normal (V11.mk v0 v1 v4 v5 v6 v7 v9 v15 v29 v37 v51) S51)
def c91_19 : V11 → Value := fun v => (V11.casesOn v fun v0 v1 v4 v5 v6 v7 v9 v15 v29 v37 v50 => v50)
def c91_20 (C : Callee) : Cd V11 := fun v S κ => (V11.casesOn v fun v0 v1 v4 v5 v6 v7 v9 v15 v29 v37 v50 => 
  kCall C 67 [v0, (.string ⟨#[58]⟩)] S fun v51 S51 =>
  κ .normal (V11.mk v0 v1 v4 v5 v6 v7 v9 v15 v29 v37 v50) S51)
def c91_21 (C : Callee) : Cd V11 := fun v S κ => (V11.casesOn v fun v0 v1 v4 v5 v6 v7 v9 v15 v29 v37 v50 => 
  kFad 4 v5 S fun v51 S51 =>
  kLd none v51 S51 fun v52 S52 =>
  kBin .add v1 (.int .i64 1) S52 fun v53 S53 =>
  kLd none v51 S53 fun u _ => cond (veqB u v52)
   (kCall C 68 [v0, v53] S53 fun v54 S54 =>
   kLit 46 5 [.int .i64 0, .int .i64 0, .int .u64 0, .string ⟨#[]⟩, .slice none 0 0] 1 [(0, 5, v54)] S54 fun v55 S55 =>
   kLd none v51 S55 fun u _ => cond (veqB u v52)
    (kApp 46 5 64 v52 v55 S55 fun v56 S56 =>
    kFad 4 v5 S56 fun v57 S57 =>
    kSt 1 v57 v56 S57 fun v58 S58 =>
    κ .normal (V11.mk v0 v1 v4 v5 v6 v7 v9 v15 v29 v37 v50) S58) none) none)
def c91_22 (C : Callee) : Cd V11 := fun v S κ => (V11.casesOn v fun v0 v1 v4 v5 v6 v7 v9 v15 v29 v37 v50 => 
  kCall C 72 [v0] S fun v51 S51 =>
  κ .normal (V11.mk v0 v1 v4 v5 v6 v7 v9 v15 v29 v37 v50) S51)
def c91_23 (C : Callee) : Cd V11 := fun v S κ => (V11.casesOn v fun v0 v1 v4 v5 v6 v7 v9 v15 v29 v37 v50 => 
  kBin .add v7 (.int .i64 1) S fun v51 S51 =>
  κ .normal (V11.mk v0 v1 v4 v5 v6 v51 v9 v15 v29 v37 v50) S51)
def c91_24 (C : Callee) (n : Nat) : Cd V11 := seqK (seqK (c91_12 C) (condK c91_13 (skipK) (exitK 0))) (seqK (blockK 1 (seqK (seqK (c91_14 C) (condK c91_15 (seqK (c91_16 C) (exitK 0)) (skipK))) (seqK (c91_17 C) (seqK (seqK (c91_18 C) (condK c91_19 (seqK (c91_20 C) (c91_21 C)) (skipK))) (c91_22 C))))) (c91_23 C))
def c91_25 (C : Callee) : Cd V11 := fun v S κ => (V11.casesOn v fun v0 v1 v4 v5 v6 v7 v9 v15 v29 v37 v50 => 
  kCall C 67 [v0, v6] S fun v51 S51 =>
  κ .normal (V11.mk v0 v1 v4 v5 v6 v7 v9 v15 v29 v37 v50) S51)
def c91_26 (C : Callee) : Cd V11 := fun v S κ => (V11.casesOn v fun v0 v1 v4 v5 v6 v7 v9 v15 v29 v37 v50 => 
  kLd (some 5) v5 S fun v51 S51 =>
  kSt 5 v4 v51 S51 fun v52 S52 =>
  κ .normal (V11.mk v0 v1 v4 v5 v6 v7 v9 v15 v29 v37 v50) S52)
/-- (*assayer/assayerref5.parser).items -/
def c91 (C : Callee) (n : Nat) : Cd V11 := seqK (c91_0 C) (seqK (seqK (c91_1 C) (condK c91_2 (seqK (c91_3 C) (seqK (c91_4 C) (retK))) (skipK))) (seqK (c91_5 C) (seqK (c91_6 C) (seqK (seqK (c91_7 C) (condK c91_8 (c91_9 C) (skipK))) (seqK (c91_10 C) (seqK (seqK (c91_11 C) (blockK 0 (loopK n (c91_24 C n)))) (seqK (c91_25 C) (seqK (c91_26 C) (retK)))))))))
def r91 (v : V11) (S : AW) : R := (V11.casesOn v fun v0 v1 v4 v5 v6 v7 v9 v15 v29 v37 v50 => kLd (some 5) v4 S fun r4 _ => some (r4, S))
def g91 (C : Callee) (n : Nat) (args : List Value) (S : AW) : R := c91 C n (V11.mk (argV args 0) (argV args 1) (argV args 4) (argV args 5) (argV args 6) (argV args 7) (argV args 9) (argV args 15) (argV args 29) (argV args 37) (argV args 50)) S fun o v S => EX.casesOn o (r91 v S) (fun _ => none) (r91 v S)
/-! (*assayer/assayerref5.parser).fields -/
def c92_0 (C : Callee) : Cd V11 := fun v S κ => (V11.casesOn v fun v0 v1 v4 v5 v6 v17 v38 v45 v56 v59 v68 => 
  κ .normal (V11.mk v0 v1 (.slice none 0 0) v5 v6 v17 v38 v45 v56 v59 v68) S)
def c92_1 (C : Callee) : Cd V11 := fun v S κ => (V11.casesOn v fun v0 v1 v4 v5 v6 v17 v38 v45 v56 v59 v68 => 
  κ .normal (V11.mk v0 v1 v4 (.slice none 0 0) v6 v17 v38 v45 v56 v59 v68) S)
def c92_2 (C : Callee) : Cd V11 := fun v S κ => (V11.casesOn v fun v0 v1 v4 v5 v6 v17 v38 v45 v56 v59 v68 => 
  kNilc v0 S fun v69 S69 =>
  kFad 2 v69 S69 fun v70 S70 =>
  kLd none v70 S70 fun v71 S71 =>
  kBin .eql v71 (.int .i64 0) S71 fun v72 S72 =>
  bl v72 fun b => cond b
   (kCall C 88 [v0, v1] S72 fun v73 S73 =>
   kUn .not v73 S73 fun v74 S74 =>
   κ .normal (V11.mk v0 v1 v4 v5 v6 v74 v38 v45 v56 v59 v68) S74)
   (κ .normal (V11.mk v0 v1 v4 v5 v6 (.bool false) v38 v45 v56 v59 v68) S72))
def c92_3 : V11 → Value := fun v => (V11.casesOn v fun v0 v1 v4 v5 v6 v17 v38 v45 v56 v59 v68 => v17)
def c92_4 (C : Callee) : Cd V11 := fun v S κ => (V11.casesOn v fun v0 v1 v4 v5 v6 v17 v38 v45 v56 v59 v68 => 
  kLen false v5 S fun v69 S69 =>
  kBin .eql v69 (.int .i64 30) S69 fun v70 S70 =>
  bl v70 fun b => cond b
   (kCall C 44 [v0] S70 fun v71 S71 =>
   kFld none 0 v71 S71 fun v72 S72 =>
   kBin .eql v72 (.int .i64 2) S72 fun v73 S73 =>
   bl v73 fun b => cond b
    (κ .normal (V11.mk v0 v1 v4 v5 v6 v17 (.bool true) v45 v56 v59 v68) S73)
    (kCall C 60 [v0, (.string ⟨#[114, 101, 113, 117, 105, 114, 101, 100]⟩)] S73 fun v74 S74 =>
    bl v74 fun b => cond b
     (κ .normal (V11.mk v0 v1 v4 v5 v6 v17 (.bool true) v45 v56 v59 v68) S74)
     (kCall C 60 [v0, (.string ⟨#[111, 112, 116, 105, 111, 110, 97, 108]⟩)] S74 fun v75 S75 =>
     bl v75 fun b => cond b
      (κ .normal (V11.mk v0 v1 v4 v5 v6 v17 (.bool true) v45 v56 v59 v68) S75)
      (kCall C 93 [v0] S75 fun v76 S76 =>
      κ .normal (V11.mk v0 v1 v4 v5 v6 v17 v76 v45 v56 v59 v68) S76))))
   (κ .normal (V11.mk v0 v1 v4 v5 v6 v17 (.bool false) v45 v56 v59 v68) S70))
def c92_5 : V11 → Value := fun v => (V11.casesOn v fun v0 v1 v4 v5 v6 v17 v38 v45 v56 v59 v68 => v38)
def c92_6 (C : Callee) : Cd V11 := fun v S κ => (V11.casesOn v fun v0 v1 v4 v5 v6 v17 v38 v45 v56 v59 v68 => 
  kCall C 46 [v0, (.int .i64 4)] S fun v69 S69 =>
  κ .normal (V11.mk v0 v1 v4 v5 v6 v17 v38 v45 v56 v59 v68) S69)
def c92_7 (C : Callee) : Cd V11 := fun v S κ => (V11.casesOn v fun v0 v1 v4 v5 v6 v17 v38 v45 v56 v59 v68 => 
  kBuild [.bool false, .int .i64 0, .int .i64 0, .string ⟨#[]⟩, .string ⟨#[]⟩, .bool false, .int .i64 0, .int .i64 0, .int .u64 0, .string ⟨#[]⟩, .slice none 0 0] [] S fun v69 S69 =>
  kNew 105 11 [.bool false, .int .i64 0, .int .i64 0, .string ⟨#[]⟩, .string ⟨#[]⟩, .bool false, .int .i64 0, .int .i64 0, .int .u64 0, .string ⟨#[]⟩, .slice none 0 0] S69 fun v70 S70 =>
  kSt 11 v70 v69 S70 fun v71 S71 =>
  κ .normal (V11.mk v0 v1 v4 v5 v70 v17 v38 v45 v56 v59 v68) S71)
def c92_8 (C : Callee) : Cd V11 := fun v S κ => (V11.casesOn v fun v0 v1 v4 v5 v6 v17 v38 v45 v56 v59 v68 => 
  kCall C 44 [v0] S fun v69 S69 =>
  kFld none 0 v69 S69 fun v70 S70 =>
  kBin .eql v70 (.int .i64 2) S70 fun v71 S71 =>
  κ .normal (V11.mk v0 v1 v4 v5 v6 v17 v38 v71 v56 v59 v68) S71)
def c92_9 : V11 → Value := fun v => (V11.casesOn v fun v0 v1 v4 v5 v6 v17 v38 v45 v56 v59 v68 => v45)
def c92_10 (C : Callee) : Cd V11 := fun v S κ => (V11.casesOn v fun v0 v1 v4 v5 v6 v17 v38 v45 v56 v59 v68 => 
  kCall C 44 [v0] S fun v69 S69 =>
  kFld none 2 v69 S69 fun v70 S70 =>
  kFad 0 v6 S70 fun v71 S71 =>
  kSt 1 v71 (.bool true) S71 fun v72 S72 =>
  kFad 1 v6 S72 fun v73 S73 =>
  kSt 1 v73 v70 S73 fun v74 S74 =>
  κ .normal (V11.mk v0 v1 v4 v5 v6 v17 v38 v45 v56 v59 v68) S74)
def c92_11 (C : Callee) : Cd V11 := fun v S κ => (V11.casesOn v fun v0 v1 v4 v5 v6 v17 v38 v45 v56 v59 v68 => 
  kCall C 62 [v0] S fun v69 S69 =>
  κ .normal (V11.mk v0 v1 v4 v5 v6 v17 v38 v45 v56 v59 v68) S69)
def c92_12 (C : Callee) : Cd V11 := fun v S κ => (V11.casesOn v fun v0 v1 v4 v5 v6 v17 v38 v45 v56 v59 v68 => 
  kCall C 67 [v0, (.string ⟨#[58]⟩)] S fun v69 S69 =>
  κ .normal (V11.mk v0 v1 v4 v5 v6 v17 v38 v45 v56 v59 v68) S69)
def c92_13 (C : Callee) : Cd V11 := fun v S κ => (V11.casesOn v fun v0 v1 v4 v5 v6 v17 v38 v45 v56 v59 v68 => 
  kCall C 61 [v0, (.string ⟨#[114, 101, 113, 117, 105, 114, 101, 100]⟩)] S fun v69 S69 =>
  κ .normal (V11.mk v0 v1 v4 v5 v6 v17 v38 v45 v69 v59 v68) S69)
def c92_14 : V11 → Value := fun v => (V11.casesOn v fun v0 v1 v4 v5 v6 v17 v38 v45 v56 v59 v68 => v56)
def c92_15 (C : Callee) : Cd V11 := fun v S κ => (V11.casesOn v fun v0 v1 v4 v5 v6 v17 v38 v45 v56 v59 v68 => 
  kFad 2 v6 S fun v69 S69 =>
  kSt 1 v69 (.int .i64 1) S69 fun v70 S70 =>
  κ .normal (V11.mk v0 v1 v4 v5 v6 v17 v38 v45 v56 v59 v68) S70)
def c92_16 (C : Callee) : Cd V11 := fun v S κ => (V11.casesOn v fun v0 v1 v4 v5 v6 v17 v38 v45 v56 v59 v68 => 
  kCall C 61 [v0, (.string ⟨#[111, 112, 116, 105, 111, 110, 97, 108]⟩)] S fun v69 S69 =>
  κ .normal (V11.mk v0 v1 v4 v5 v6 v17 v38 v45 v56 v69 v68) S69)
def c92_17 : V11 → Value := fun v => (V11.casesOn v fun v0 v1 v4 v5 v6 v17 v38 v45 v56 v59 v68 => v59)
def c92_18 (C : Callee) : Cd V11 := fun v S κ => (V11.casesOn v fun v0 v1 v4 v5 v6 v17 v38 v45 v56 v59 v68 => 
  kFad 2 v6 S fun v69 S69 =>
  kSt 1 v69 (.int .i64 2) S69 fun v70 S70 =>
  κ .normal (V11.mk v0 v1 v4 v5 v6 v17 v38 v45 v56 v59 v68) S70)
def c92_19 (C : Callee) : Cd V11 := fun v S κ => (V11.casesOn v fun v0 v1 v4 v5 v6 v17 v38 v45 v56 v59 v68 => 
  kCall C 65 [v0, (.int .i64 1)] S fun v69 S69 =>
  kFad 3 v6 S69 fun v70 S70 =>
  kSt 1 v70 v69 S70 fun v71 S71 =>
  κ .normal (V11.mk v0 v1 v4 v5 v6 v17 v38 v45 v56 v59 v68) S71)
def c92_20 (C : Callee) : Cd V11 := fun v S κ => (V11.casesOn v fun v0 v1 v4 v5 v6 v17 v38 v45 v56 v59 v68 => 
  kCall C 66 [v0] S fun v69 S69 =>
  kFad 4 v6 S69 fun v70 S70 =>
  kSt 1 v70 v69 S70 fun v71 S71 =>
  κ .normal (V11.mk v0 v1 v4 v5 v6 v17 v38 v45 v56 v59 v68) S71)
def c92_21 (C : Callee) : Cd V11 := fun v S κ => (V11.casesOn v fun v0 v1 v4 v5 v6 v17 v38 v45 v56 v59 v68 => 
  kCall C 63 [v0, (.string ⟨#[61]⟩)] S fun v69 S69 =>
  κ .normal (V11.mk v0 v1 v4 v5 v6 v17 v38 v45 v56 v59 v69) S69)
def c92_22 : V11 → Value := fun v => (V11.casesOn v fun v0 v1 v4 v5 v6 v17 v38 v45 v56 v59 v68 => v68)
def c92_23 (C : Callee) : Cd V11 := fun v S κ => (V11.casesOn v fun v0 v1 v4 v5 v6 v17 v38 v45 v56 v59 v68 => 
  kCall C 68 [v0, (.int .i64 1)] S fun v69 S69 =>
  kFad 5 v6 S69 fun v70 S70 =>
  kSt 1 v70 (.bool true) S70 fun v71 S71 =>
  kFad 6 v6 S71 fun v72 S72 =>
  kSt 5 v72 v69 S72 fun v73 S73 =>
  κ .normal (V11.mk v0 v1 v4 v5 v6 v17 v38 v45 v56 v59 v68) S73)
def c92_24 (C : Callee) : Cd V11 := fun v S κ => (V11.casesOn v fun v0 v1 v4 v5 v6 v17 v38 v45 v56 v59 v68 => 
  kCall C 72 [v0] S fun v69 S69 =>
  κ .normal (V11.mk v0 v1 v4 v5 v6 v17 v38 v45 v56 v59 v68) S69)
def c92_25 (C : Callee) : Cd V11 := fun v S κ => (V11.casesOn v fun v0 v1 v4 v5 v6 v17 v38 v45 v56 v59 v68 => 
  kLd (some 11) v6 S fun v69 S69 =>
  kLit 105 11 [.bool false, .int .i64 0, .int .i64 0, .string ⟨#[]⟩, .string ⟨#[]⟩, .bool false, .int .i64 0, .int .i64 0, .int .u64 0, .string ⟨#[]⟩, .slice none 0 0] 1 [(0, 11, v69)] S69 fun v70 S70 =>
  kApp 105 11 128 v5 v70 S70 fun v71 S71 =>
  κ .normal (V11.mk v0 v1 v4 v71 v6 v17 v38 v45 v56 v59 v68) S71)
def c92_26 (C : Callee) (n : Nat) : Cd V11 := seqK (seqK (c92_2 C) (condK c92_3 (skipK) (exitK 0))) (blockK 1 (seqK (seqK (c92_4 C) (condK c92_5 (seqK (c92_6 C) (exitK 0)) (skipK))) (seqK (c92_7 C) (seqK (seqK (c92_8 C) (condK c92_9 (seqK (c92_10 C) (seqK (c92_11 C) (c92_12 C))) (skipK))) (seqK (seqK (c92_13 C) (condK c92_14 (c92_15 C) (seqK (c92_16 C) (condK c92_17 (c92_18 C) (skipK))))) (seqK (c92_19 C) (seqK (c92_20 C) (seqK (seqK (c92_21 C) (condK c92_22 (c92_23 C) (skipK))) (seqK (c92_24 C) (c92_25 C))))))))))
def c92_27 (C : Callee) : Cd V11 := fun v S κ => (V11.casesOn v fun v0 v1 v4 v5 v6 v17 v38 v45 v56 v59 v68 => 
  kCall C 67 [v0, v1] S fun v69 S69 =>
  κ .normal (V11.mk v0 v1 v4 v5 v6 v17 v38 v45 v56 v59 v68) S69)
def c92_28 (C : Callee) : Cd V11 := fun v S κ => (V11.casesOn v fun v0 v1 v4 v5 v6 v17 v38 v45 v56 v59 v68 => 
  κ .normal (V11.mk v0 v1 v5 v5 v6 v17 v38 v45 v56 v59 v68) S)
/-- (*assayer/assayerref5.parser).fields -/
def c92 (C : Callee) (n : Nat) : Cd V11 := seqK (c92_0 C) (seqK (c92_1 C) (seqK (blockK 0 (loopK n (c92_26 C n))) (seqK (c92_27 C) (seqK (c92_28 C) (retK)))))
def r92 (v : V11) (S : AW) : R := (V11.casesOn v fun v0 v1 v4 v5 v6 v17 v38 v45 v56 v59 v68 => some (v4, S))
def g92 (C : Callee) (n : Nat) (args : List Value) (S : AW) : R := c92 C n (V11.mk (argV args 0) (argV args 1) (argV args 4) (argV args 5) (argV args 6) (argV args 17) (argV args 38) (argV args 45) (argV args 56) (argV args 59) (argV args 68)) S fun o v S => EX.casesOn o (r92 v S) (fun _ => none) (r92 v S)
/-! (*assayer/assayerref5.parser).typed -/
def c93_0 (C : Callee) : Cd V3 := fun v S κ => (V3.casesOn v fun v0 v2 v3 => 
  κ .normal (V3.mk v0 (.bool false) v3) S)
def c93_1 (C : Callee) : Cd V3 := fun v S κ => (V3.casesOn v fun v0 v2 v3 => 
  kCall C 44 [v0] S fun v4 S4 =>
  kNew 118 5 [.int .i64 0, .string ⟨#[]⟩, .int .i64 0, .int .u64 0, .int .i64 0] S4 fun v5 S5 =>
  kSt 5 v5 v4 S5 fun v6 S6 =>
  κ .normal (V3.mk v0 v2 v5) S6)
def c93_2 (C : Callee) : Cd V3 := fun v S κ => (V3.casesOn v fun v0 v2 v3 => 
  kFad 0 v3 S fun v4 S4 =>
  kLd none v4 S4 fun v5 S5 =>
  kBin .eql v5 (.int .i64 1) S5 fun v6 S6 =>
  bl v6 fun b => cond b
   (kFad 1 v3 S6 fun v7 S7 =>
   kLd none v7 S7 fun v8 S8 =>
   kCall C 41 [v8] S8 fun v9 S9 =>
   kBin .neq v9 (.int .i64 0) S9 fun v10 S10 =>
   bl v10 fun b => cond b
    (κ .normal (V3.mk v0 (.bool true) v3) S10)
    (kFad 1 v3 S10 fun v11 S11 =>
    kLd none v11 S11 fun v12 S12 =>
    kBin .eql v12 (.string ⟨#[98, 121, 116, 101]⟩) S12 fun v13 S13 =>
    bl v13 fun b => cond b
     (κ .normal (V3.mk v0 (.bool true) v3) S13)
     (kFad 1 v3 S13 fun v14 S14 =>
     kLd none v14 S14 fun v15 S15 =>
     kCall C 89 [v15] S15 fun v16 S16 =>
     κ .normal (V3.mk v0 v16 v3) S16)))
   (κ .normal (V3.mk v0 (.bool false) v3) S6))
/-- (*assayer/assayerref5.parser).typed -/
def c93 (C : Callee) (n : Nat) : Cd V3 := seqK (c93_0 C) (seqK (c93_1 C) (seqK (c93_2 C) (retK)))
def r93 (v : V3) (S : AW) : R := (V3.casesOn v fun v0 v2 v3 => some (v2, S))
def g93 (C : Callee) (n : Nat) (args : List Value) (S : AW) : R := c93 C n (V3.mk (argV args 0) (argV args 2) (argV args 3)) S fun o v S => EX.casesOn o (r93 v S) (fun _ => none) (r93 v S)
/-! unicode/utf8.decodeRuneInStringSlow -/
def c97_0 (C : Callee) : Cd V20 := fun v S κ => (V20.casesOn v fun v0 v2 v3 v4 v5 v6 v7 v8 v9 v10 v11 v12 v16 v23 v45 v57 v59 v75 v77 v98 => 
  κ .normal (V20.mk v0 (.int .i32 0) (.int .i64 0) v4 v5 v6 v7 v8 v9 v10 v11 v12 v16 v23 v45 v57 v59 v75 v77 v98) S)
def c97_1 (C : Callee) : Cd V20 := fun v S κ => (V20.casesOn v fun v0 v2 v3 v4 v5 v6 v7 v8 v9 v10 v11 v12 v16 v23 v45 v57 v59 v75 v77 v98 => 
  kLen true v0 S fun v99 S99 =>
  κ .normal (V20.mk v0 v2 v3 v99 v5 v6 v7 v8 v9 v10 v11 v12 v16 v23 v45 v57 v59 v75 v77 v98) S99)
def c97_2 (C : Callee) : Cd V20 := fun v S κ => (V20.casesOn v fun v0 v2 v3 v4 v5 v6 v7 v8 v9 v10 v11 v12 v16 v23 v45 v57 v59 v75 v77 v98 => 
  kBin .lss v4 (.int .i64 1) S fun v99 S99 =>
  κ .normal (V20.mk v0 v2 v3 v4 v5 v6 v7 v8 v9 v10 v11 v12 v99 v23 v45 v57 v59 v75 v77 v98) S99)
def c97_3 : V20 → Value := fun v => (V20.casesOn v fun v0 v2 v3 v4 v5 v6 v7 v8 v9 v10 v11 v12 v16 v23 v45 v57 v59 v75 v77 v98 => v16)
def c97_4 (C : Callee) : Cd V20 := fun v S κ => (V20.casesOn v fun v0 v2 v3 v4 v5 v6 v7 v8 v9 v10 v11 v12 v16 v23 v45 v57 v59 v75 v77 v98 => 
  κ .normal (V20.mk v0 (.int .i32 65533) (.int .i64 0) v4 v5 v6 v7 v8 v9 v10 v11 v12 v16 v23 v45 v57 v59 v75 v77 v98) S)
def c97_5 (C : Callee) : Cd V20 := fun v S κ => (V20.casesOn v fun v0 v2 v3 v4 v5 v6 v7 v8 v9 v10 v11 v12 v16 v23 v45 v57 v59 v75 v77 v98 => 
  kIdxS v0 (.int .i64 0) S fun v99 S99 =>
  κ .normal (V20.mk v0 v2 v3 v4 v99 v6 v7 v8 v9 v10 v11 v12 v16 v23 v45 v57 v59 v75 v77 v98) S99)
def c97_6 (C : Callee) : Cd V20 := fun v S κ => (V20.casesOn v fun v0 v2 v3 v4 v5 v6 v7 v8 v9 v10 v11 v12 v16 v23 v45 v57 v59 v75 v77 v98 => 
  bl (.func (.func 0) #[] #[]) fun b => cond b
   (κ .normal (V20.mk v0 v2 v3 v4 v5 v6 v7 v8 v9 v10 v11 v12 v16 v23 v45 v57 v59 v75 v77 v98) S)
   (κ .normal (V20.mk v0 v2 v3 v4 v5 v6 v7 v8 v9 v10 v11 v12 v16 v23 v45 v57 v59 v75 v77 v98) S))
def c97_7 (C : Callee) : Cd V20 := fun v S κ => (V20.casesOn v fun v0 v2 v3 v4 v5 v6 v7 v8 v9 v10 v11 v12 v16 v23 v45 v57 v59 v75 v77 v98 => 
  kBin .geq v6 (.int .u8 240) S fun v99 S99 =>
  κ .normal (V20.mk v0 v2 v3 v4 v5 v6 v7 v8 v9 v10 v11 v12 v16 v99 v45 v57 v59 v75 v77 v98) S99)
def c97_8 : V20 → Value := fun v => (V20.casesOn v fun v0 v2 v3 v4 v5 v6 v7 v8 v9 v10 v11 v12 v16 v23 v45 v57 v59 v75 v77 v98 => v23)
def c97_9 (C : Callee) : Cd V20 := fun v S κ => (V20.casesOn v fun v0 v2 v3 v4 v5 v6 v7 v8 v9 v10 v11 v12 v16 v23 v45 v57 v59 v75 v77 v98 => 
  kCvI .i32 v6 S fun v99 S99 =>
  kBin .shl v99 (.int .u64 31) S99 fun v100 S100 =>
  kBin .shr v100 (.int .u64 31) S100 fun v101 S101 =>
  κ .normal (V20.mk v0 v2 v3 v4 v5 v6 v101 v8 v9 v10 v11 v12 v16 v23 v45 v57 v59 v75 v77 v98) S101)
def c97_10 (C : Callee) : Cd V20 := fun v S κ => (V20.casesOn v fun v0 v2 v3 v4 v5 v6 v7 v8 v9 v10 v11 v12 v16 v23 v45 v57 v59 v75 v77 v98 => 
  kIdxS v0 (.int .i64 0) S fun v99 S99 =>
  kCvI .i32 v99 S99 fun v100 S100 =>
  kBin .andNot v100 v7 S100 fun v101 S101 =>
  kBin .and (.int .i32 65533) v7 S101 fun v102 S102 =>
  kBin .or v101 v102 S102 fun v103 S103 =>
  κ .normal (V20.mk v0 v103 (.int .i64 1) v4 v5 v6 v7 v8 v9 v10 v11 v12 v16 v23 v45 v57 v59 v75 v77 v98) S103)
def c97_11 (C : Callee) : Cd V20 := fun v S κ => (V20.casesOn v fun v0 v2 v3 v4 v5 v6 v7 v8 v9 v10 v11 v12 v16 v23 v45 v57 v59 v75 v77 v98 => 
  kBin .and v6 (.int .u8 7) S fun v99 S99 =>
  kCvI .i64 v99 S99 fun v100 S100 =>
  κ .normal (V20.mk v0 v2 v3 v4 v5 v6 v7 v100 v9 v10 v11 v12 v16 v23 v45 v57 v59 v75 v77 v98) S100)
def c97_12 (C : Callee) : Cd V20 := fun v S κ => (V20.casesOn v fun v0 v2 v3 v4 v5 v6 v7 v8 v9 v10 v11 v12 v16 v23 v45 v57 v59 v75 v77 v98 => 
  kBin .shr v6 (.int .u64 4) S fun v99 S99 =>
  bl (.func (.func 0) #[] #[]) fun b => cond b
   (κ .normal (V20.mk v0 v2 v3 v4 v5 v6 v7 v8 v9 v10 v11 v12 v16 v23 v45 v57 v59 v75 v77 v98) S99)
   (κ .normal (V20.mk v0 v2 v3 v4 v5 v6 v7 v8 v9 v10 v11 v12 v16 v23 v45 v57 v59 v75 v77 v98) S99))
def c97_13 (C : Callee) : Cd V20 := fun v S κ => (V20.casesOn v fun v0 v2 v3 v4 v5 v6 v7 v8 v9 v10 v11 v12 v16 v23 v45 v57 v59 v75 v77 v98 => 
  kBin .lss v4 v8 S fun v99 S99 =>
  κ .normal (V20.mk v0 v2 v3 v4 v5 v6 v7 v8 v9 v10 v11 v12 v16 v23 v99 v57 v59 v75 v77 v98) S99)
def c97_14 : V20 → Value := fun v => (V20.casesOn v fun v0 v2 v3 v4 v5 v6 v7 v8 v9 v10 v11 v12 v16 v23 v45 v57 v59 v75 v77 v98 => v45)
def c97_15 (C : Callee) : Cd V20 := fun v S κ => (V20.casesOn v fun v0 v2 v3 v4 v5 v6 v7 v8 v9 v10 v11 v12 v16 v23 v45 v57 v59 v75 v77 v98 => 
  κ .normal (V20.mk v0 (.int .i32 65533) (.int .i64 1) v4 v5 v6 v7 v8 v9 v10 v11 v12 v16 v23 v45 v57 v59 v75 v77 v98) S)
def c97_16 (C : Callee) : Cd V20 := fun v S κ => (V20.casesOn v fun v0 v2 v3 v4 v5 v6 v7 v8 v9 v10 v11 v12 v16 v23 v45 v57 v59 v75 v77 v98 => 
  kIdxS v0 (.int .i64 1) S fun v99 S99 =>
  κ .normal (V20.mk v0 v2 v3 v4 v5 v6 v7 v8 v9 v99 v11 v12 v16 v23 v45 v57 v59 v75 v77 v98) S99)
def c97_17 (C : Callee) : Cd V20 := fun v S κ => (V20.casesOn v fun v0 v2 v3 v4 v5 v6 v7 v8 v9 v10 v11 v12 v16 v23 v45 v57 v59 v75 v77 v98 => 
  kFad 0 v9 S fun v99 S99 =>
  kLd none v99 S99 fun v100 S100 =>
  kBin .lss v10 v100 S100 fun v101 S101 =>
  bl v101 fun b => cond b
   (κ .normal (V20.mk v0 v2 v3 v4 v5 v6 v7 v8 v9 v10 v11 v12 v16 v23 v45 (.bool true) v59 v75 v77 v98) S101)
   (kFad 1 v9 S101 fun v102 S102 =>
   kLd none v102 S102 fun v103 S103 =>
   kBin .lss v103 v10 S103 fun v104 S104 =>
   κ .normal (V20.mk v0 v2 v3 v4 v5 v6 v7 v8 v9 v10 v11 v12 v16 v23 v45 v104 v59 v75 v77 v98) S104))
def c97_18 : V20 → Value := fun v => (V20.casesOn v fun v0 v2 v3 v4 v5 v6 v7 v8 v9 v10 v11 v12 v16 v23 v45 v57 v59 v75 v77 v98 => v57)
def c97_19 (C : Callee) : Cd V20 := fun v S κ => (V20.casesOn v fun v0 v2 v3 v4 v5 v6 v7 v8 v9 v10 v11 v12 v16 v23 v45 v57 v59 v75 v77 v98 => 
  κ .normal (V20.mk v0 (.int .i32 65533) (.int .i64 1) v4 v5 v6 v7 v8 v9 v10 v11 v12 v16 v23 v45 v57 v59 v75 v77 v98) S)
def c97_20 (C : Callee) : Cd V20 := fun v S κ => (V20.casesOn v fun v0 v2 v3 v4 v5 v6 v7 v8 v9 v10 v11 v12 v16 v23 v45 v57 v59 v75 v77 v98 => 
  kBin .leq v8 (.int .i64 2) S fun v99 S99 =>
  κ .normal (V20.mk v0 v2 v3 v4 v5 v6 v7 v8 v9 v10 v11 v12 v16 v23 v45 v57 v99 v75 v77 v98) S99)
def c97_21 : V20 → Value := fun v => (V20.casesOn v fun v0 v2 v3 v4 v5 v6 v7 v8 v9 v10 v11 v12 v16 v23 v45 v57 v59 v75 v77 v98 => v59)
def c97_22 (C : Callee) : Cd V20 := fun v S κ => (V20.casesOn v fun v0 v2 v3 v4 v5 v6 v7 v8 v9 v10 v11 v12 v16 v23 v45 v57 v59 v75 v77 v98 => 
  kBin .and v5 (.int .u8 31) S fun v99 S99 =>
  kCvI .i32 v99 S99 fun v100 S100 =>
  kBin .shl v100 (.int .u64 6) S100 fun v101 S101 =>
  kBin .and v10 (.int .u8 63) S101 fun v102 S102 =>
  kCvI .i32 v102 S102 fun v103 S103 =>
  kBin .or v101 v103 S103 fun v104 S104 =>
  κ .normal (V20.mk v0 v104 (.int .i64 2) v4 v5 v6 v7 v8 v9 v10 v11 v12 v16 v23 v45 v57 v59 v75 v77 v98) S104)
def c97_23 (C : Callee) : Cd V20 := fun v S κ => (V20.casesOn v fun v0 v2 v3 v4 v5 v6 v7 v8 v9 v10 v11 v12 v16 v23 v45 v57 v59 v75 v77 v98 => 
  kIdxS v0 (.int .i64 2) S fun v99 S99 =>
  κ .normal (V20.mk v0 v2 v3 v4 v5 v6 v7 v8 v9 v10 v99 v12 v16 v23 v45 v57 v59 v75 v77 v98) S99)
def c97_24 (C : Callee) : Cd V20 := fun v S κ => (V20.casesOn v fun v0 v2 v3 v4 v5 v6 v7 v8 v9 v10 v11 v12 v16 v23 v45 v57 v59 v75 v77 v98 => 
  kBin .lss v11 (.int .u8 128) S fun v99 S99 =>
  bl v99 fun b => cond b
   (κ .normal (V20.mk v0 v2 v3 v4 v5 v6 v7 v8 v9 v10 v11 v12 v16 v23 v45 v57 v59 (.bool true) v77 v98) S99)
   (kBin .lss (.int .u8 191) v11 S99 fun v100 S100 =>
   κ .normal (V20.mk v0 v2 v3 v4 v5 v6 v7 v8 v9 v10 v11 v12 v16 v23 v45 v57 v59 v100 v77 v98) S100))
def c97_25 : V20 → Value := fun v => (V20.casesOn v fun v0 v2 v3 v4 v5 v6 v7 v8 v9 v10 v11 v12 v16 v23 v45 v57 v59 v75 v77 v98 => v75)
def c97_26 (C : Callee) : Cd V20 := fun v S κ => (V20.casesOn v fun v0 v2 v3 v4 v5 v6 v7 v8 v9 v10 v11 v12 v16 v23 v45 v57 v59 v75 v77 v98 => 
  κ .normal (V20.mk v0 (.int .i32 65533) (.int .i64 1) v4 v5 v6 v7 v8 v9 v10 v11 v12 v16 v23 v45 v57 v59 v75 v77 v98) S)
def c97_27 (C : Callee) : Cd V20 := fun v S κ => (V20.casesOn v fun v0 v2 v3 v4 v5 v6 v7 v8 v9 v10 v11 v12 v16 v23 v45 v57 v59 v75 v77 v98 => 
  kBin .leq v8 (.int .i64 3) S fun v99 S99 =>
  κ .normal (V20.mk v0 v2 v3 v4 v5 v6 v7 v8 v9 v10 v11 v12 v16 v23 v45 v57 v59 v75 v99 v98) S99)
def c97_28 : V20 → Value := fun v => (V20.casesOn v fun v0 v2 v3 v4 v5 v6 v7 v8 v9 v10 v11 v12 v16 v23 v45 v57 v59 v75 v77 v98 => v77)
def c97_29 (C : Callee) : Cd V20 := fun v S κ => (V20.casesOn v fun v0 v2 v3 v4 v5 v6 v7 v8 v9 v10 v11 v12 v16 v23 v45 v57 v59 v75 v77 v98 => 
  kBin .and v5 (.int .u8 15) S fun v99 S99 =>
  kCvI .i32 v99 S99 fun v100 S100 =>
  kBin .shl v100 (.int .u64 12) S100 fun v101 S101 =>
  kBin .and v10 (.int .u8 63) S101 fun v102 S102 =>
  kCvI .i32 v102 S102 fun v103 S103 =>
  kBin .shl v103 (.int .u64 6) S103 fun v104 S104 =>
  kBin .or v101 v104 S104 fun v105 S105 =>
  kBin .and v11 (.int .u8 63) S105 fun v106 S106 =>
  kCvI .i32 v106 S106 fun v107 S107 =>
  kBin .or v105 v107 S107 fun v108 S108 =>
  κ .normal (V20.mk v0 v108 (.int .i64 3) v4 v5 v6 v7 v8 v9 v10 v11 v12 v16 v23 v45 v57 v59 v75 v77 v98) S108)
def c97_30 (C : Callee) : Cd V20 := fun v S κ => (V20.casesOn v fun v0 v2 v3 v4 v5 v6 v7 v8 v9 v10 v11 v12 v16 v23 v45 v57 v59 v75 v77 v98 => 
  kIdxS v0 (.int .i64 3) S fun v99 S99 =>
  κ .normal (V20.mk v0 v2 v3 v4 v5 v6 v7 v8 v9 v10 v11 v99 v16 v23 v45 v57 v59 v75 v77 v98) S99)
def c97_31 (C : Callee) : Cd V20 := fun v S κ => (V20.casesOn v fun v0 v2 v3 v4 v5 v6 v7 v8 v9 v10 v11 v12 v16 v23 v45 v57 v59 v75 v77 v98 => 
  kBin .lss v12 (.int .u8 128) S fun v99 S99 =>
  bl v99 fun b => cond b
   (κ .normal (V20.mk v0 v2 v3 v4 v5 v6 v7 v8 v9 v10 v11 v12 v16 v23 v45 v57 v59 v75 v77 (.bool true)) S99)
   (kBin .lss (.int .u8 191) v12 S99 fun v100 S100 =>
   κ .normal (V20.mk v0 v2 v3 v4 v5 v6 v7 v8 v9 v10 v11 v12 v16 v23 v45 v57 v59 v75 v77 v100) S100))
def c97_32 : V20 → Value := fun v => (V20.casesOn v fun v0 v2 v3 v4 v5 v6 v7 v8 v9 v10 v11 v12 v16 v23 v45 v57 v59 v75 v77 v98 => v98)
def c97_33 (C : Callee) : Cd V20 := fun v S κ => (V20.casesOn v fun v0 v2 v3 v4 v5 v6 v7 v8 v9 v10 v11 v12 v16 v23 v45 v57 v59 v75 v77 v98 => 
  κ .normal (V20.mk v0 (.int .i32 65533) (.int .i64 1) v4 v5 v6 v7 v8 v9 v10 v11 v12 v16 v23 v45 v57 v59 v75 v77 v98) S)
def c97_34 (C : Callee) : Cd V20 := fun v S κ => (V20.casesOn v fun v0 v2 v3 v4 v5 v6 v7 v8 v9 v10 v11 v12 v16 v23 v45 v57 v59 v75 v77 v98 => 
  kBin .and v5 (.int .u8 7) S fun v99 S99 =>
  kCvI .i32 v99 S99 fun v100 S100 =>
  kBin .shl v100 (.int .u64 18) S100 fun v101 S101 =>
  kBin .and v10 (.int .u8 63) S101 fun v102 S102 =>
  kCvI .i32 v102 S102 fun v103 S103 =>
  kBin .shl v103 (.int .u64 12) S103 fun v104 S104 =>
  kBin .or v101 v104 S104 fun v105 S105 =>
  kBin .and v11 (.int .u8 63) S105 fun v106 S106 =>
  kCvI .i32 v106 S106 fun v107 S107 =>
  kBin .shl v107 (.int .u64 6) S107 fun v108 S108 =>
  kBin .or v105 v108 S108 fun v109 S109 =>
  kBin .and v12 (.int .u8 63) S109 fun v110 S110 =>
  kCvI .i32 v110 S110 fun v111 S111 =>
  kBin .or v109 v111 S111 fun v112 S112 =>
  κ .normal (V20.mk v0 v112 (.int .i64 4) v4 v5 v6 v7 v8 v9 v10 v11 v12 v16 v23 v45 v57 v59 v75 v77 v98) S112)
/-- unicode/utf8.decodeRuneInStringSlow -/
def c97 (C : Callee) (n : Nat) : Cd V20 := seqK (c97_0 C) (seqK (c97_1 C) (seqK (seqK (c97_2 C) (condK c97_3 (seqK (c97_4 C) (retK)) (skipK))) (seqK (c97_5 C) (seqK (c97_6 C) (seqK (seqK (c97_7 C) (condK c97_8 (seqK (c97_9 C) (seqK (c97_10 C) (retK))) (skipK))) (seqK (c97_11 C) (seqK (c97_12 C) (seqK (seqK (c97_13 C) (condK c97_14 (seqK (c97_15 C) (retK)) (skipK))) (seqK (c97_16 C) (seqK (seqK (c97_17 C) (condK c97_18 (seqK (c97_19 C) (retK)) (skipK))) (seqK (seqK (c97_20 C) (condK c97_21 (seqK (c97_22 C) (retK)) (skipK))) (seqK (c97_23 C) (seqK (seqK (c97_24 C) (condK c97_25 (seqK (c97_26 C) (retK)) (skipK))) (seqK (seqK (c97_27 C) (condK c97_28 (seqK (c97_29 C) (retK)) (skipK))) (seqK (c97_30 C) (seqK (seqK (c97_31 C) (condK c97_32 (seqK (c97_33 C) (retK)) (skipK))) (seqK (c97_34 C) (retK))))))))))))))))))
def r97 (v : V20) (S : AW) : R := (V20.casesOn v fun v0 v2 v3 v4 v5 v6 v7 v8 v9 v10 v11 v12 v16 v23 v45 v57 v59 v75 v77 v98 => some (.tuple #[v2, v3], S))
def g97 (C : Callee) (n : Nat) (args : List Value) (S : AW) : R := c97 C n (V20.mk (argV args 0) (argV args 2) (argV args 3) (argV args 4) (argV args 5) (argV args 6) (argV args 7) (argV args 8) (argV args 9) (argV args 10) (argV args 11) (argV args 12) (argV args 16) (argV args 23) (argV args 45) (argV args 57) (argV args 59) (argV args 75) (argV args 77) (argV args 98)) S fun o v S => EX.casesOn o (r97 v S) (fun _ => none) (r97 v S)
/-! internal/stringslite.IndexByte -/
def c98_0 (C : Callee) : Cd V3 := fun v S κ => (V3.casesOn v fun v0 v1 v4 => 
  κ .normal (V3.mk v0 v1 (.int .i64 0)) S)
def c98_1 (C : Callee) : Cd V3 := fun v S κ => (V3.casesOn v fun v0 v1 v4 => 
  kCall C 121 [v0, v1] S fun v5 S5 =>
  κ .normal (V3.mk v0 v1 v5) S5)
/-- internal/stringslite.IndexByte -/
def c98 (C : Callee) (n : Nat) : Cd V3 := seqK (c98_0 C) (seqK (c98_1 C) (retK))
def r98 (v : V3) (S : AW) : R := (V3.casesOn v fun v0 v1 v4 => some (v4, S))
def g98 (C : Callee) (n : Nat) (args : List Value) (S : AW) : R := c98 C n (V3.mk (argV args 0) (argV args 1) (argV args 4)) S fun o v S => EX.casesOn o (r98 v S) (fun _ => none) (r98 v S)
-- NONE 99 internal/bytealg.IndexString
/-! internal/bytealg.IndexRabinKarp[string] -/
def c101_0 (C : Callee) : Cd V13 := fun v S κ => (V13.casesOn v fun v0 v1 v4 v5 v6 v7 v8 v9 v10 v20 v39 v44 v77 => 
  κ .normal (V13.mk v0 v1 (.int .i64 0) v5 v6 v7 v8 v9 v10 v20 v39 v44 v77) S)
def c101_1 (C : Callee) : Cd V13 := fun v S κ => (V13.casesOn v fun v0 v1 v4 v5 v6 v7 v8 v9 v10 v20 v39 v44 v77 => 
  kCall C 122 [v1] S fun v78 S78 =>
  kExt 0 v78 S78 fun v79 S79 =>
  kExt 1 v78 S79 fun v80 S80 =>
  κ .normal (V13.mk v0 v1 v4 v79 v80 v7 v8 v9 v10 v20 v39 v44 v77) S80)
def c101_2 (C : Callee) : Cd V13 := fun v S κ => (V13.casesOn v fun v0 v1 v4 v5 v6 v7 v8 v9 v10 v20 v39 v44 v77 => 
  kLen true v1 S fun v78 S78 =>
  κ .normal (V13.mk v0 v1 v4 v5 v6 v78 v8 v9 v10 v20 v39 v44 v77) S78)
def c101_3 (C : Callee) : Cd V13 := fun v S κ => (V13.casesOn v fun v0 v1 v4 v5 v6 v7 v8 v9 v10 v20 v39 v44 v77 => 
  κ .normal (V13.mk v0 v1 v4 v5 v6 v7 (.int .u32 0) v9 v10 v20 v39 v44 v77) S)
def c101_4 (C : Callee) : Cd V13 := fun v S κ => (V13.casesOn v fun v0 v1 v4 v5 v6 v7 v8 v9 v10 v20 v39 v44 v77 => 
  κ .normal (V13.mk v0 v1 v4 v5 v6 v7 v8 (.int .i64 0) v10 v20 v39 v44 v77) S)
def c101_5 (C : Callee) : Cd V13 := fun v S κ => (V13.casesOn v fun v0 v1 v4 v5 v6 v7 v8 v9 v10 v20 v39 v44 v77 => 
  kBin .lss v9 v7 S fun v78 S78 =>
  κ .normal (V13.mk v0 v1 v4 v5 v6 v7 v8 v9 v10 v78 v39 v44 v77) S78)
def c101_6 : V13 → Value := fun v => (V13.casesOn v fun v0 v1 v4 v5 v6 v7 v8 v9 v10 v20 v39 v44 v77 => v20)
def c101_7 (C : Callee) : Cd V13 := fun v S κ => (V13.casesOn v fun v0 v1 v4 v5 v6 v7 v8 v9 v10 v20 v39 v44 v77 => 
  kBin .mul v8 (.int .u32 16777619) S fun v78 S78 =>
  kIdxS v0 v9 S78 fun v79 S79 =>
  kCvI .u32 v79 S79 fun v80 S80 =>
  kBin .add v78 v80 S80 fun v81 S81 =>
  κ .normal (V13.mk v0 v1 v4 v5 v6 v7 v81 v9 v10 v20 v39 v44 v77) S81)
def c101_8 (C : Callee) : Cd V13 := fun v S κ => (V13.casesOn v fun v0 v1 v4 v5 v6 v7 v8 v9 v10 v20 v39 v44 v77 => 
  kBin .add v9 (.int .i64 1) S fun v78 S78 =>
  κ .normal (V13.mk v0 v1 v4 v5 v6 v7 v8 v78 v10 v20 v39 v44 v77) S78)
def c101_9 (C : Callee) (n : Nat) : Cd V13 := seqK (seqK (c101_5 C) (condK c101_6 (skipK) (exitK 0))) (seqK (blockK 1 (c101_7 C)) (c101_8 C))
def c101_10 (C : Callee) : Cd V13 := fun v S κ => (V13.casesOn v fun v0 v1 v4 v5 v6 v7 v8 v9 v10 v20 v39 v44 v77 => 
  kBin .eql v8 v5 S fun v78 S78 =>
  bl v78 fun b => cond b
   (kSlS v0 none (some v7) S78 fun v79 S79 =>
   kBin .eql v79 v1 S79 fun v80 S80 =>
   κ .normal (V13.mk v0 v1 v4 v5 v6 v7 v8 v9 v10 v20 v80 v44 v77) S80)
   (κ .normal (V13.mk v0 v1 v4 v5 v6 v7 v8 v9 v10 v20 (.bool false) v44 v77) S78))
def c101_11 : V13 → Value := fun v => (V13.casesOn v fun v0 v1 v4 v5 v6 v7 v8 v9 v10 v20 v39 v44 v77 => v39)
def c101_12 (C : Callee) : Cd V13 := fun v S κ => (V13.casesOn v fun v0 v1 v4 v5 v6 v7 v8 v9 v10 v20 v39 v44 v77 => 
  κ .normal (V13.mk v0 v1 (.int .i64 0) v5 v6 v7 v8 v9 v10 v20 v39 v44 v77) S)
def c101_13 (C : Callee) : Cd V13 := fun v S κ => (V13.casesOn v fun v0 v1 v4 v5 v6 v7 v8 v9 v10 v20 v39 v44 v77 => 
  κ .normal (V13.mk v0 v1 v4 v5 v6 v7 v8 v9 v7 v20 v39 v44 v77) S)
def c101_14 (C : Callee) : Cd V13 := fun v S κ => (V13.casesOn v fun v0 v1 v4 v5 v6 v7 v8 v9 v10 v20 v39 v44 v77 => 
  kLen true v0 S fun v78 S78 =>
  kBin .lss v10 v78 S78 fun v79 S79 =>
  κ .normal (V13.mk v0 v1 v4 v5 v6 v7 v8 v9 v10 v20 v39 v79 v77) S79)
def c101_15 : V13 → Value := fun v => (V13.casesOn v fun v0 v1 v4 v5 v6 v7 v8 v9 v10 v20 v39 v44 v77 => v44)
def c101_16 (C : Callee) : Cd V13 := fun v S κ => (V13.casesOn v fun v0 v1 v4 v5 v6 v7 v8 v9 v10 v20 v39 v44 v77 => 
  kBin .mul v8 (.int .u32 16777619) S fun v78 S78 =>
  κ .normal (V13.mk v0 v1 v4 v5 v6 v7 v78 v9 v10 v20 v39 v44 v77) S78)
def c101_17 (C : Callee) : Cd V13 := fun v S κ => (V13.casesOn v fun v0 v1 v4 v5 v6 v7 v8 v9 v10 v20 v39 v44 v77 => 
  kIdxS v0 v10 S fun v78 S78 =>
  kCvI .u32 v78 S78 fun v79 S79 =>
  kBin .add v8 v79 S79 fun v80 S80 =>
  κ .normal (V13.mk v0 v1 v4 v5 v6 v7 v80 v9 v10 v20 v39 v44 v77) S80)
def c101_18 (C : Callee) : Cd V13 := fun v S κ => (V13.casesOn v fun v0 v1 v4 v5 v6 v7 v8 v9 v10 v20 v39 v44 v77 => 
  kBin .sub v10 v7 S fun v78 S78 =>
  kIdxS v0 v78 S78 fun v79 S79 =>
  kCvI .u32 v79 S79 fun v80 S80 =>
  kBin .mul v6 v80 S80 fun v81 S81 =>
  kBin .sub v8 v81 S81 fun v82 S82 =>
  κ .normal (V13.mk v0 v1 v4 v5 v6 v7 v82 v9 v10 v20 v39 v44 v77) S82)
def c101_19 (C : Callee) : Cd V13 := fun v S κ => (V13.casesOn v fun v0 v1 v4 v5 v6 v7 v8 v9 v10 v20 v39 v44 v77 => 
  kBin .add v10 (.int .i64 1) S fun v78 S78 =>
  κ .normal (V13.mk v0 v1 v4 v5 v6 v7 v8 v9 v78 v20 v39 v44 v77) S78)
def c101_20 (C : Callee) : Cd V13 := fun v S κ => (V13.casesOn v fun v0 v1 v4 v5 v6 v7 v8 v9 v10 v20 v39 v44 v77 => 
  kBin .eql v8 v5 S fun v78 S78 =>
  bl v78 fun b => cond b
   (kBin .sub v10 v7 S78 fun v79 S79 =>
   kSlS v0 (some v79) (some v10) S79 fun v80 S80 =>
   kBin .eql v80 v1 S80 fun v81 S81 =>
   κ .normal (V13.mk v0 v1 v4 v5 v6 v7 v8 v9 v10 v20 v39 v44 v81) S81)
   (κ .normal (V13.mk v0 v1 v4 v5 v6 v7 v8 v9 v10 v20 v39 v44 (.bool false)) S78))
def c101_21 : V13 → Value := fun v => (V13.casesOn v fun v0 v1 v4 v5 v6 v7 v8 v9 v10 v20 v39 v44 v77 => v77)
def c101_22 (C : Callee) : Cd V13 := fun v S κ => (V13.casesOn v fun v0 v1 v4 v5 v6 v7 v8 v9 v10 v20 v39 v44 v77 => 
  kBin .sub v10 v7 S fun v78 S78 =>
  κ .normal (V13.mk v0 v1 v78 v5 v6 v7 v8 v9 v10 v20 v39 v44 v77) S78)
def c101_23 (C : Callee) (n : Nat) : Cd V13 := seqK (seqK (c101_14 C) (condK c101_15 (skipK) (exitK 2))) (blockK 3 (seqK (c101_16 C) (seqK (c101_17 C) (seqK (c101_18 C) (seqK (c101_19 C) (seqK (c101_20 C) (condK c101_21 (seqK (c101_22 C) (retK)) (skipK))))))))
def c101_24 (C : Callee) : Cd V13 := fun v S κ => (V13.casesOn v fun v0 v1 v4 v5 v6 v7 v8 v9 v10 v20 v39 v44 v77 => 
  κ .normal (V13.mk v0 v1 (.int .i64 (-1)) v5 v6 v7 v8 v9 v10 v20 v39 v44 v77) S)
/-- internal/bytealg.IndexRabinKarp[string] -/
def c101 (C : Callee) (n : Nat) : Cd V13 := seqK (c101_0 C) (seqK (c101_1 C) (seqK (c101_2 C) (seqK (c101_3 C) (seqK (seqK (c101_4 C) (blockK 0 (loopK n (c101_9 C n)))) (seqK (seqK (c101_10 C) (condK c101_11 (seqK (c101_12 C) (retK)) (skipK))) (seqK (seqK (c101_13 C) (blockK 2 (loopK n (c101_23 C n)))) (seqK (c101_24 C) (retK))))))))
def r101 (v : V13) (S : AW) : R := (V13.casesOn v fun v0 v1 v4 v5 v6 v7 v8 v9 v10 v20 v39 v44 v77 => some (v4, S))
def g101 (C : Callee) (n : Nat) (args : List Value) (S : AW) : R := c101 C n (V13.mk (argV args 0) (argV args 1) (argV args 4) (argV args 5) (argV args 6) (argV args 7) (argV args 8) (argV args 9) (argV args 10) (argV args 20) (argV args 39) (argV args 44) (argV args 77)) S fun o v S => EX.casesOn o (r101 v S) (fun _ => none) (r101 v S)
/-! assayer/assayerref5.hex -/
def c102_0 (C : Callee) : Cd V5 := fun v S κ => (V5.casesOn v fun v0 v2 v3 v9 v20 => 
  κ .normal (V5.mk v0 (.int .i64 0) v3 v9 v20) S)
def c102_1 (C : Callee) : Cd V5 := fun v S κ => (V5.casesOn v fun v0 v2 v3 v9 v20 => 
  kCall C 28 [v0] S fun v21 S21 =>
  κ .normal (V5.mk v0 v2 v21 v9 v20) S21)
def c102_2 : V5 → Value := fun v => (V5.casesOn v fun v0 v2 v3 v9 v20 => v3)
def c102_3 (C : Callee) : Cd V5 := fun v S κ => (V5.casesOn v fun v0 v2 v3 v9 v20 => 
  kBin .sub v0 (.int .u8 48) S fun v21 S21 =>
  kCvI .i64 v21 S21 fun v22 S22 =>
  κ .normal (V5.mk v0 v22 v3 v9 v20) S22)
def c102_4 (C : Callee) : Cd V5 := fun v S κ => (V5.casesOn v fun v0 v2 v3 v9 v20 => 
  kBin .geq v0 (.int .u8 97) S fun v21 S21 =>
  bl v21 fun b => cond b
   (kBin .leq v0 (.int .u8 102) S21 fun v22 S22 =>
   κ .normal (V5.mk v0 v2 v3 v22 v20) S22)
   (κ .normal (V5.mk v0 v2 v3 (.bool false) v20) S21))
def c102_5 : V5 → Value := fun v => (V5.casesOn v fun v0 v2 v3 v9 v20 => v9)
def c102_6 (C : Callee) : Cd V5 := fun v S κ => (V5.casesOn v fun v0 v2 v3 v9 v20 => 
  kBin .sub v0 (.int .u8 97) S fun v21 S21 =>
  kCvI .i64 v21 S21 fun v22 S22 =>
  kBin .add v22 (.int .i64 10) S22 fun v23 S23 =>
  κ .normal (V5.mk v0 v23 v3 v9 v20) S23)
def c102_7 (C : Callee) : Cd V5 := fun v S κ => (V5.casesOn v fun v0 v2 v3 v9 v20 => 
  kBin .geq v0 (.int .u8 65) S fun v21 S21 =>
  bl v21 fun b => cond b
   (kBin .leq v0 (.int .u8 70) S21 fun v22 S22 =>
   κ .normal (V5.mk v0 v2 v3 v9 v22) S22)
   (κ .normal (V5.mk v0 v2 v3 v9 (.bool false)) S21))
def c102_8 : V5 → Value := fun v => (V5.casesOn v fun v0 v2 v3 v9 v20 => v20)
def c102_9 (C : Callee) : Cd V5 := fun v S κ => (V5.casesOn v fun v0 v2 v3 v9 v20 => 
  kBin .sub v0 (.int .u8 65) S fun v21 S21 =>
  kCvI .i64 v21 S21 fun v22 S22 =>
  kBin .add v22 (.int .i64 10) S22 fun v23 S23 =>
  κ .normal (V5.mk v0 v23 v3 v9 v20) S23)
def c102_10 (C : Callee) : Cd V5 := fun v S κ => (V5.casesOn v fun v0 v2 v3 v9 v20 => 
  κ .normal (V5.mk v0 (.int .i64 (-1)) v3 v9 v20) S)
/-- assayer/assayerref5.hex -/
def c102 (C : Callee) (n : Nat) : Cd V5 := seqK (c102_0 C) (seqK (blockK 0 (seqK (c102_1 C) (condK c102_2 (seqK (c102_3 C) (retK)) (seqK (c102_4 C) (condK c102_5 (seqK (c102_6 C) (retK)) (seqK (c102_7 C) (condK c102_8 (seqK (c102_9 C) (retK)) (skipK)))))))) (seqK (c102_10 C) (retK)))
def r102 (v : V5) (S : AW) : R := (V5.casesOn v fun v0 v2 v3 v9 v20 => some (v2, S))
def g102 (C : Callee) (n : Nat) (args : List Value) (S : AW) : R := c102 C n (V5.mk (argV args 0) (argV args 2) (argV args 3) (argV args 9) (argV args 20)) S fun o v S => EX.casesOn o (r102 v S) (fun _ => none) (r102 v S)
/-! (*assayer/assayerref5.lexer).sixteen -/
def c103_0 (C : Callee) : Cd V9 := fun v S κ => (V9.casesOn v fun v0 v2 v3 v4 v5 v6 v46 v74 v76 => 
  kNew 118 5 [.int .i64 0, .string ⟨#[]⟩, .int .i64 0, .int .u64 0, .int .i64 0] S fun v77 S77 =>
  κ .normal (V9.mk v0 v77 v3 v4 v5 v6 v46 v74 v76) S77)
def c103_1 (C : Callee) : Cd V9 := fun v S κ => (V9.casesOn v fun v0 v2 v3 v4 v5 v6 v46 v74 v76 => 
  kNilc v0 S fun v77 S77 =>
  kFad 1 v77 S77 fun v78 S78 =>
  kLd none v78 S78 fun v79 S79 =>
  kBuild [.int .i64 0, .string ⟨#[]⟩, .int .i64 0, .int .u64 0, .int .i64 0] [(0, 1, (.int .i64 2)), (4, 1, v79)] S79 fun v80 S80 =>
  kNew 118 5 [.int .i64 0, .string ⟨#[]⟩, .int .i64 0, .int .u64 0, .int .i64 0] S80 fun v81 S81 =>
  kSt 5 v81 v80 S81 fun v82 S82 =>
  κ .normal (V9.mk v0 v2 v81 v4 v5 v6 v46 v74 v76) S82)
def c103_2 (C : Callee) : Cd V9 := fun v S κ => (V9.casesOn v fun v0 v2 v3 v4 v5 v6 v46 v74 v76 => 
  kNilc v0 S fun v77 S77 =>
  kFad 1 v77 S77 fun v78 S78 =>
  kLd none v78 S78 fun v79 S79 =>
  kBin .add v79 (.int .i64 2) S79 fun v80 S80 =>
  kNilc v0 S80 fun v81 S81 =>
  kFad 1 v81 S81 fun v82 S82 =>
  kSt 1 v82 v80 S82 fun v83 S83 =>
  κ .normal (V9.mk v0 v2 v3 v4 v5 v6 v46 v74 v76) S83)
def c103_3 (C : Callee) : Cd V9 := fun v S κ => (V9.casesOn v fun v0 v2 v3 v4 v5 v6 v46 v74 v76 => 
  kNilc v0 S fun v77 S77 =>
  kFad 1 v77 S77 fun v78 S78 =>
  kLd none v78 S78 fun v79 S79 =>
  κ .normal (V9.mk v0 v2 v3 v79 v5 v6 v46 v74 v76) S79)
def c103_4 (C : Callee) : Cd V9 := fun v S κ => (V9.casesOn v fun v0 v2 v3 v4 v5 v6 v46 v74 v76 => 
  κ .normal (V9.mk v0 v2 v3 v4 (.int .u64 0) v6 v46 v74 v76) S)
def c103_5 (C : Callee) : Cd V9 := fun v S κ => (V9.casesOn v fun v0 v2 v3 v4 v5 v6 v46 v74 v76 => 
  kNilc v0 S fun v77 S77 =>
  kFad 1 v77 S77 fun v78 S78 =>
  kLd none v78 S78 fun v79 S79 =>
  kNilc v0 S79 fun v80 S80 =>
  kFad 0 v80 S80 fun v81 S81 =>
  kLd none v81 S81 fun v82 S82 =>
  kLen true v82 S82 fun v83 S83 =>
  kBin .lss v79 v83 S83 fun v84 S84 =>
  bl v84 fun b => cond b
   (kNilc v0 S84 fun v85 S85 =>
   kFad 0 v85 S85 fun v86 S86 =>
   kLd none v86 S86 fun v87 S87 =>
   kNilc v0 S87 fun v88 S88 =>
   kFad 1 v88 S88 fun v89 S89 =>
   kLd none v89 S89 fun v90 S90 =>
   kIdxS v87 v90 S90 fun v91 S91 =>
   kCall C 102 [v91] S91 fun v92 S92 =>
   kBin .geq v92 (.int .i64 0) S92 fun v93 S93 =>
   κ .normal (V9.mk v0 v2 v3 v4 v5 v6 v93 v74 v76) S93)
   (κ .normal (V9.mk v0 v2 v3 v4 v5 v6 (.bool false) v74 v76) S84))
def c103_6 : V9 → Value := fun v => (V9.casesOn v fun v0 v2 v3 v4 v5 v6 v46 v74 v76 => v46)
def c103_7 (C : Callee) : Cd V9 := fun v S κ => (V9.casesOn v fun v0 v2 v3 v4 v5 v6 v46 v74 v76 => 
  kBin .shl v5 (.int .u64 4) S fun v77 S77 =>
  kNilc v0 S77 fun v78 S78 =>
  kFad 0 v78 S78 fun v79 S79 =>
  kLd none v79 S79 fun v80 S80 =>
  kNilc v0 S80 fun v81 S81 =>
  kFad 1 v81 S81 fun v82 S82 =>
  kLd none v82 S82 fun v83 S83 =>
  kIdxS v80 v83 S83 fun v84 S84 =>
  kCall C 102 [v84] S84 fun v85 S85 =>
  kCvI .u64 v85 S85 fun v86 S86 =>
  kBin .or v77 v86 S86 fun v87 S87 =>
  κ .normal (V9.mk v0 v2 v3 v4 v87 v6 v46 v74 v76) S87)
def c103_8 (C : Callee) : Cd V9 := fun v S κ => (V9.casesOn v fun v0 v2 v3 v4 v5 v6 v46 v74 v76 => 
  kNilc v0 S fun v77 S77 =>
  kFad 1 v77 S77 fun v78 S78 =>
  kLd none v78 S78 fun v79 S79 =>
  kBin .add v79 (.int .i64 1) S79 fun v80 S80 =>
  kNilc v0 S80 fun v81 S81 =>
  kFad 1 v81 S81 fun v82 S82 =>
  kSt 1 v82 v80 S82 fun v83 S83 =>
  κ .normal (V9.mk v0 v2 v3 v4 v5 v6 v46 v74 v76) S83)
def c103_9 (C : Callee) (n : Nat) : Cd V9 := seqK (seqK (c103_5 C) (condK c103_6 (skipK) (exitK 0))) (blockK 1 (seqK (c103_7 C) (c103_8 C)))
def c103_10 (C : Callee) : Cd V9 := fun v S κ => (V9.casesOn v fun v0 v2 v3 v4 v5 v6 v46 v74 v76 => 
  κ .normal (V9.mk v0 v2 v3 v4 v5 (.int .i64 0) v46 v74 v76) S)
def c103_11 (C : Callee) : Cd V9 := fun v S κ => (V9.casesOn v fun v0 v2 v3 v4 v5 v6 v46 v74 v76 => 
  kNilc v0 S fun v77 S77 =>
  kFad 1 v77 S77 fun v78 S78 =>
  kLd none v78 S78 fun v79 S79 =>
  kBin .sub v79 v4 S79 fun v80 S80 =>
  kBin .gtr v80 (.int .i64 16) S80 fun v81 S81 =>
  κ .normal (V9.mk v0 v2 v3 v4 v5 v6 v46 v81 v76) S81)
def c103_12 : V9 → Value := fun v => (V9.casesOn v fun v0 v2 v3 v4 v5 v6 v46 v74 v76 => v74)
def c103_13 (C : Callee) : Cd V9 := fun v S κ => (V9.casesOn v fun v0 v2 v3 v4 v5 v6 v46 v74 v76 => 
  κ .normal (V9.mk v0 v2 v3 v4 v5 (.int .i64 4) v46 v74 v76) S)
def c103_14 (C : Callee) : Cd V9 := fun v S κ => (V9.casesOn v fun v0 v2 v3 v4 v5 v6 v46 v74 v76 => 
  kBin .gtr v5 (.int .u64 9223372036854775807) S fun v77 S77 =>
  κ .normal (V9.mk v0 v2 v3 v4 v5 v6 v46 v74 v77) S77)
def c103_15 : V9 → Value := fun v => (V9.casesOn v fun v0 v2 v3 v4 v5 v6 v46 v74 v76 => v76)
def c103_16 (C : Callee) : Cd V9 := fun v S κ => (V9.casesOn v fun v0 v2 v3 v4 v5 v6 v46 v74 v76 => 
  κ .normal (V9.mk v0 v2 v3 v4 v5 (.int .i64 5) v46 v74 v76) S)
def c103_17 (C : Callee) : Cd V9 := fun v S κ => (V9.casesOn v fun v0 v2 v3 v4 v5 v6 v46 v74 v76 => 
  kCvI .i64 v5 S fun v77 S77 =>
  kFad 2 v3 S77 fun v78 S78 =>
  kSt 1 v78 v77 S78 fun v79 S79 =>
  κ .normal (V9.mk v0 v2 v3 v4 v5 v6 v46 v74 v76) S79)
def c103_18 (C : Callee) : Cd V9 := fun v S κ => (V9.casesOn v fun v0 v2 v3 v4 v5 v6 v46 v74 v76 => 
  kLd (some 5) v3 S fun v77 S77 =>
  kCall C 108 [v0, v77, v6] S77 fun v78 S78 =>
  kSt 5 v2 v78 S78 fun v79 S79 =>
  κ .normal (V9.mk v0 v2 v3 v4 v5 v6 v46 v74 v76) S79)
/-- (*assayer/assayerref5.lexer).sixteen -/
def c103 (C : Callee) (n : Nat) : Cd V9 := seqK (c103_0 C) (seqK (c103_1 C) (seqK (c103_2 C) (seqK (c103_3 C) (seqK (c103_4 C) (seqK (blockK 0 (loopK n (c103_9 C n))) (seqK (c103_10 C) (seqK (seqK (c103_11 C) (condK c103_12 (c103_13 C) (seqK (c103_14 C) (condK c103_15 (c103_16 C) (skipK))))) (seqK (c103_17 C) (seqK (c103_18 C) (retK))))))))))
def r103 (v : V9) (S : AW) : R := (V9.casesOn v fun v0 v2 v3 v4 v5 v6 v46 v74 v76 => kLd (some 5) v2 S fun r2 _ => some (r2, S))
def g103 (C : Callee) (n : Nat) (args : List Value) (S : AW) : R := c103 C n (V9.mk (argV args 0) (argV args 2) (argV args 3) (argV args 4) (argV args 5) (argV args 6) (argV args 46) (argV args 74) (argV args 76)) S fun o v S => EX.casesOn o (r103 v S) (fun _ => none) (r103 v S)
/-! (*assayer/assayerref5.lexer).digits -/
def c104_0 (C : Callee) : Cd V4 := fun v S κ => (V4.casesOn v fun v0 v2 v3 v29 => 
  κ .normal (V4.mk v0 (.bool false) v3 v29) S)
def c104_1 (C : Callee) : Cd V4 := fun v S κ => (V4.casesOn v fun v0 v2 v3 v29 => 
  kNilc v0 S fun v30 S30 =>
  kFad 1 v30 S30 fun v31 S31 =>
  kLd none v31 S31 fun v32 S32 =>
  κ .normal (V4.mk v0 v2 v32 v29) S32)
def c104_2 (C : Callee) : Cd V4 := fun v S κ => (V4.casesOn v fun v0 v2 v3 v29 => 
  kNilc v0 S fun v30 S30 =>
  kFad 1 v30 S30 fun v31 S31 =>
  kLd none v31 S31 fun v32 S32 =>
  kNilc v0 S32 fun v33 S33 =>
  kFad 0 v33 S33 fun v34 S34 =>
  kLd none v34 S34 fun v35 S35 =>
  kLen true v35 S35 fun v36 S36 =>
  kBin .lss v32 v36 S36 fun v37 S37 =>
  bl v37 fun b => cond b
   (kNilc v0 S37 fun v38 S38 =>
   kFad 0 v38 S38 fun v39 S39 =>
   kLd none v39 S39 fun v40 S40 =>
   kNilc v0 S40 fun v41 S41 =>
   kFad 1 v41 S41 fun v42 S42 =>
   kLd none v42 S42 fun v43 S43 =>
   kIdxS v40 v43 S43 fun v44 S44 =>
   kCall C 28 [v44] S44 fun v45 S45 =>
   κ .normal (V4.mk v0 v2 v3 v45) S45)
   (κ .normal (V4.mk v0 v2 v3 (.bool false)) S37))
def c104_3 : V4 → Value := fun v => (V4.casesOn v fun v0 v2 v3 v29 => v29)
def c104_4 (C : Callee) : Cd V4 := fun v S κ => (V4.casesOn v fun v0 v2 v3 v29 => 
  kNilc v0 S fun v30 S30 =>
  kFad 1 v30 S30 fun v31 S31 =>
  kLd none v31 S31 fun v32 S32 =>
  kBin .add v32 (.int .i64 1) S32 fun v33 S33 =>
  kNilc v0 S33 fun v34 S34 =>
  kFad 1 v34 S34 fun v35 S35 =>
  kSt 1 v35 v33 S35 fun v36 S36 =>
  κ .normal (V4.mk v0 v2 v3 v29) S36)
def c104_5 (C : Callee) (n : Nat) : Cd V4 := seqK (seqK (c104_2 C) (condK c104_3 (skipK) (exitK 0))) (blockK 1 (c104_4 C))
def c104_6 (C : Callee) : Cd V4 := fun v S κ => (V4.casesOn v fun v0 v2 v3 v29 => 
  kNilc v0 S fun v30 S30 =>
  kFad 1 v30 S30 fun v31 S31 =>
  kLd none v31 S31 fun v32 S32 =>
  kBin .gtr v32 v3 S32 fun v33 S33 =>
  κ .normal (V4.mk v0 v33 v3 v29) S33)
/-- (*assayer/assayerref5.lexer).digits -/
def c104 (C : Callee) (n : Nat) : Cd V4 := seqK (c104_0 C) (seqK (c104_1 C) (seqK (blockK 0 (loopK n (c104_5 C n))) (seqK (c104_6 C) (retK))))
def r104 (v : V4) (S : AW) : R := (V4.casesOn v fun v0 v2 v3 v29 => some (v2, S))
def g104 (C : Callee) (n : Nat) (args : List Value) (S : AW) : R := c104 C n (V4.mk (argV args 0) (argV args 2) (argV args 3) (argV args 29)) S fun o v S => EX.casesOn o (r104 v S) (fun _ => none) (r104 v S)
/-! (*assayer/assayerref5.lexer).has -/
def c105_0 (C : Callee) : Cd V3 := fun v S κ => (V3.casesOn v fun v0 v1 v4 => 
  κ .normal (V3.mk v0 v1 (.bool false)) S)
def c105_1 (C : Callee) : Cd V3 := fun v S κ => (V3.casesOn v fun v0 v1 v4 => 
  kNilc v0 S fun v5 S5 =>
  kFad 1 v5 S5 fun v6 S6 =>
  kLd none v6 S6 fun v7 S7 =>
  kBin .add v7 v1 S7 fun v8 S8 =>
  kNilc v0 S8 fun v9 S9 =>
  kFad 0 v9 S9 fun v10 S10 =>
  kLd none v10 S10 fun v11 S11 =>
  kLen true v11 S11 fun v12 S12 =>
  kBin .lss v8 v12 S12 fun v13 S13 =>
  bl v13 fun b => cond b
   (kNilc v0 S13 fun v14 S14 =>
   kFad 0 v14 S14 fun v15 S15 =>
   kLd none v15 S15 fun v16 S16 =>
   kNilc v0 S16 fun v17 S17 =>
   kFad 1 v17 S17 fun v18 S18 =>
   kLd none v18 S18 fun v19 S19 =>
   kBin .add v19 v1 S19 fun v20 S20 =>
   kIdxS v16 v20 S20 fun v21 S21 =>
   kCall C 28 [v21] S21 fun v22 S22 =>
   κ .normal (V3.mk v0 v1 v22) S22)
   (κ .normal (V3.mk v0 v1 (.bool false)) S13))
/-- (*assayer/assayerref5.lexer).has -/
def c105 (C : Callee) (n : Nat) : Cd V3 := seqK (c105_0 C) (seqK (c105_1 C) (retK))
def r105 (v : V3) (S : AW) : R := (V3.casesOn v fun v0 v1 v4 => some (v4, S))
def g105 (C : Callee) (n : Nat) (args : List Value) (S : AW) : R := c105 C n (V3.mk (argV args 0) (argV args 1) (argV args 4)) S fun o v S => EX.casesOn o (r105 v S) (fun _ => none) (r105 v S)
/-! assayer/assayerref5.ten -/
def c106_0 (C : Callee) : Cd V13 := fun v S κ => (V13.casesOn v fun v0 v2 v3 v4 v5 v6 v7 v16 v21 v25 v37 v47 v48 => 
  κ .normal (V13.mk v0 (.int .i64 0) (.int .i64 0) v4 v5 v6 v7 v16 v21 v25 v37 v47 v48) S)
def c106_1 (C : Callee) : Cd V13 := fun v S κ => (V13.casesOn v fun v0 v2 v3 v4 v5 v6 v7 v16 v21 v25 v37 v47 v48 => 
  kIdxS v0 (.int .i64 0) S fun v49 S49 =>
  kBin .eql v49 (.int .u8 45) S49 fun v50 S50 =>
  κ .normal (V13.mk v0 v2 v3 v50 v5 v6 v7 v16 v21 v25 v37 v47 v48) S50)
def c106_2 (C : Callee) : Cd V13 := fun v S κ => (V13.casesOn v fun v0 v2 v3 v4 v5 v6 v7 v16 v21 v25 v37 v47 v48 => 
  bl v4 fun b => cond b
   (κ .normal (V13.mk v0 v2 v3 v4 v5 v6 v7 (.bool true) v21 v25 v37 v47 v48) S)
   (kIdxS v0 (.int .i64 0) S fun v49 S49 =>
   kBin .eql v49 (.int .u8 43) S49 fun v50 S50 =>
   κ .normal (V13.mk v0 v2 v3 v4 v5 v6 v7 v50 v21 v25 v37 v47 v48) S50))
def c106_3 : V13 → Value := fun v => (V13.casesOn v fun v0 v2 v3 v4 v5 v6 v7 v16 v21 v25 v37 v47 v48 => v16)
def c106_4 (C : Callee) : Cd V13 := fun v S κ => (V13.casesOn v fun v0 v2 v3 v4 v5 v6 v7 v16 v21 v25 v37 v47 v48 => 
  kSlS v0 (some (.int .i64 1)) none S fun v49 S49 =>
  κ .normal (V13.mk v49 v2 v3 v4 v5 v6 v7 v16 v21 v25 v37 v47 v48) S49)
def c106_5 (C : Callee) : Cd V13 := fun v S κ => (V13.casesOn v fun v0 v2 v3 v4 v5 v6 v7 v16 v21 v25 v37 v47 v48 => 
  kLen true v0 S fun v49 S49 =>
  kBin .gtr v49 (.int .i64 60) S49 fun v50 S50 =>
  κ .normal (V13.mk v0 v2 v3 v4 v5 v6 v7 v16 v50 v25 v37 v47 v48) S50)
def c106_6 : V13 → Value := fun v => (V13.casesOn v fun v0 v2 v3 v4 v5 v6 v7 v16 v21 v25 v37 v47 v48 => v21)
def c106_7 (C : Callee) : Cd V13 := fun v S κ => (V13.casesOn v fun v0 v2 v3 v4 v5 v6 v7 v16 v21 v25 v37 v47 v48 => 
  κ .normal (V13.mk v0 (.int .i64 0) (.int .i64 4) v4 v5 v6 v7 v16 v21 v25 v37 v47 v48) S)
def c106_8 (C : Callee) : Cd V13 := fun v S κ => (V13.casesOn v fun v0 v2 v3 v4 v5 v6 v7 v16 v21 v25 v37 v47 v48 => 
  κ .normal (V13.mk v0 v2 v3 v4 (.int .u64 0) v6 v7 v16 v21 v25 v37 v47 v48) S)
def c106_9 (C : Callee) : Cd V13 := fun v S κ => (V13.casesOn v fun v0 v2 v3 v4 v5 v6 v7 v16 v21 v25 v37 v47 v48 => 
  κ .normal (V13.mk v0 v2 v3 v4 v5 (.int .i64 0) v7 v16 v21 v25 v37 v47 v48) S)
def c106_10 (C : Callee) : Cd V13 := fun v S κ => (V13.casesOn v fun v0 v2 v3 v4 v5 v6 v7 v16 v21 v25 v37 v47 v48 => 
  kLen true v0 S fun v49 S49 =>
  kBin .lss v6 v49 S49 fun v50 S50 =>
  κ .normal (V13.mk v0 v2 v3 v4 v5 v6 v7 v16 v21 v50 v37 v47 v48) S50)
def c106_11 : V13 → Value := fun v => (V13.casesOn v fun v0 v2 v3 v4 v5 v6 v7 v16 v21 v25 v37 v47 v48 => v25)
def c106_12 (C : Callee) : Cd V13 := fun v S κ => (V13.casesOn v fun v0 v2 v3 v4 v5 v6 v7 v16 v21 v25 v37 v47 v48 => 
  kIdxS v0 v6 S fun v49 S49 =>
  kBin .sub v49 (.int .u8 48) S49 fun v50 S50 =>
  kCvI .u64 v50 S50 fun v51 S51 =>
  κ .normal (V13.mk v0 v2 v3 v4 v5 v6 v51 v16 v21 v25 v37 v47 v48) S51)
def c106_13 (C : Callee) : Cd V13 := fun v S κ => (V13.casesOn v fun v0 v2 v3 v4 v5 v6 v7 v16 v21 v25 v37 v47 v48 => 
  kBin .sub (.int .u64 9223372036854775808) v7 S fun v49 S49 =>
  kBin .quo v49 (.int .u64 10) S49 fun v50 S50 =>
  kBin .gtr v5 v50 S50 fun v51 S51 =>
  κ .normal (V13.mk v0 v2 v3 v4 v5 v6 v7 v16 v21 v25 v51 v47 v48) S51)
def c106_14 : V13 → Value := fun v => (V13.casesOn v fun v0 v2 v3 v4 v5 v6 v7 v16 v21 v25 v37 v47 v48 => v37)
def c106_15 (C : Callee) : Cd V13 := fun v S κ => (V13.casesOn v fun v0 v2 v3 v4 v5 v6 v7 v16 v21 v25 v37 v47 v48 => 
  κ .normal (V13.mk v0 (.int .i64 0) (.int .i64 5) v4 v5 v6 v7 v16 v21 v25 v37 v47 v48) S)
def c106_16 (C : Callee) : Cd V13 := fun v S κ => (V13.casesOn v fun v0 v2 v3 v4 v5 v6 v7 v16 v21 v25 v37 v47 v48 => 
  kBin .mul v5 (.int .u64 10) S fun v49 S49 =>
  kBin .add v49 v7 S49 fun v50 S50 =>
  κ .normal (V13.mk v0 v2 v3 v4 v50 v6 v7 v16 v21 v25 v37 v47 v48) S50)
def c106_17 (C : Callee) : Cd V13 := fun v S κ => (V13.casesOn v fun v0 v2 v3 v4 v5 v6 v7 v16 v21 v25 v37 v47 v48 => 
  kBin .add v6 (.int .i64 1) S fun v49 S49 =>
  κ .normal (V13.mk v0 v2 v3 v4 v5 v49 v7 v16 v21 v25 v37 v47 v48) S49)
def c106_18 (C : Callee) (n : Nat) : Cd V13 := seqK (seqK (c106_10 C) (condK c106_11 (skipK) (exitK 0))) (seqK (blockK 1 (seqK (c106_12 C) (seqK (seqK (c106_13 C) (condK c106_14 (seqK (c106_15 C) (retK)) (skipK))) (c106_16 C)))) (c106_17 C))
def c106_19 (C : Callee) : Cd V13 := fun v S κ => (V13.casesOn v fun v0 v2 v3 v4 v5 v6 v7 v16 v21 v25 v37 v47 v48 => 
  kUn .not v4 S fun v49 S49 =>
  bl v49 fun b => cond b
   (kBin .gtr v5 (.int .u64 9223372036854775807) S49 fun v50 S50 =>
   κ .normal (V13.mk v0 v2 v3 v4 v5 v6 v7 v16 v21 v25 v37 v50 v48) S50)
   (κ .normal (V13.mk v0 v2 v3 v4 v5 v6 v7 v16 v21 v25 v37 (.bool false) v48) S49))
def c106_20 : V13 → Value := fun v => (V13.casesOn v fun v0 v2 v3 v4 v5 v6 v7 v16 v21 v25 v37 v47 v48 => v47)
def c106_21 (C : Callee) : Cd V13 := fun v S κ => (V13.casesOn v fun v0 v2 v3 v4 v5 v6 v7 v16 v21 v25 v37 v47 v48 => 
  κ .normal (V13.mk v0 (.int .i64 0) (.int .i64 5) v4 v5 v6 v7 v16 v21 v25 v37 v47 v48) S)
def c106_22 (C : Callee) : Cd V13 := fun v S κ => (V13.casesOn v fun v0 v2 v3 v4 v5 v6 v7 v16 v21 v25 v37 v47 v48 => 
  κ .normal (V13.mk v0 v2 v3 v4 v5 v6 v7 v16 v21 v25 v37 v47 v4) S)
def c106_23 : V13 → Value := fun v => (V13.casesOn v fun v0 v2 v3 v4 v5 v6 v7 v16 v21 v25 v37 v47 v48 => v48)
def c106_24 (C : Callee) : Cd V13 := fun v S κ => (V13.casesOn v fun v0 v2 v3 v4 v5 v6 v7 v16 v21 v25 v37 v47 v48 => 
  kBin .sub v5 (.int .u64 1) S fun v49 S49 =>
  kCvI .i64 v49 S49 fun v50 S50 =>
  kUn .neg v50 S50 fun v51 S51 =>
  kBin .sub v51 (.int .i64 1) S51 fun v52 S52 =>
  κ .normal (V13.mk v0 v52 (.int .i64 0) v4 v5 v6 v7 v16 v21 v25 v37 v47 v48) S52)
def c106_25 (C : Callee) : Cd V13 := fun v S κ => (V13.casesOn v fun v0 v2 v3 v4 v5 v6 v7 v16 v21 v25 v37 v47 v48 => 
  kCvI .i64 v5 S fun v49 S49 =>
  κ .normal (V13.mk v0 v49 (.int .i64 0) v4 v5 v6 v7 v16 v21 v25 v37 v47 v48) S49)
/-- assayer/assayerref5.ten -/
def c106 (C : Callee) (n : Nat) : Cd V13 := seqK (c106_0 C) (seqK (c106_1 C) (seqK (seqK (c106_2 C) (condK c106_3 (c106_4 C) (skipK))) (seqK (seqK (c106_5 C) (condK c106_6 (seqK (c106_7 C) (retK)) (skipK))) (seqK (c106_8 C) (seqK (seqK (c106_9 C) (blockK 0 (loopK n (c106_18 C n)))) (seqK (seqK (c106_19 C) (condK c106_20 (seqK (c106_21 C) (retK)) (skipK))) (seqK (seqK (c106_22 C) (condK c106_23 (seqK (c106_24 C) (retK)) (skipK))) (seqK (c106_25 C) (retK)))))))))
def r106 (v : V13) (S : AW) : R := (V13.casesOn v fun v0 v2 v3 v4 v5 v6 v7 v16 v21 v25 v37 v47 v48 => some (.tuple #[v2, v3], S))
def g106 (C : Callee) (n : Nat) (args : List Value) (S : AW) : R := c106 C n (V13.mk (argV args 0) (argV args 2) (argV args 3) (argV args 4) (argV args 5) (argV args 6) (argV args 7) (argV args 16) (argV args 21) (argV args 25) (argV args 37) (argV args 47) (argV args 48)) S fun o v S => EX.casesOn o (r106 v S) (fun _ => none) (r106 v S)
/-! assayer/assayerref1.Parse -/
def c107_0 (C : Callee) : Cd V27 := fun v S κ => (V27.casesOn v fun v0 v2 v3 v4 v5 v6 v7 v8 v9 v10 v11 v12 v13 v14 v15 v28 v31 v55 v58 v65 v79 v87 v91 v92 v96 v114 v129 => 
  κ .normal (V27.mk v0 (.int .u64 0) (.int .i64 0) v4 v5 v6 v7 v8 v9 v10 v11 v12 v13 v14 v15 v28 v31 v55 v58 v65 v79 v87 v91 v92 v96 v114 v129) S)
def c107_1 (C : Callee) : Cd V27 := fun v S κ => (V27.casesOn v fun v0 v2 v3 v4 v5 v6 v7 v8 v9 v10 v11 v12 v13 v14 v15 v28 v31 v55 v58 v65 v79 v87 v91 v92 v96 v114 v129 => 
  κ .normal (V27.mk v0 v2 v3 (.int .u64 0) v5 v6 v7 v8 v9 v10 v11 v12 v13 v14 v15 v28 v31 v55 v58 v65 v79 v87 v91 v92 v96 v114 v129) S)
def c107_2 (C : Callee) : Cd V27 := fun v S κ => (V27.casesOn v fun v0 v2 v3 v4 v5 v6 v7 v8 v9 v10 v11 v12 v13 v14 v15 v28 v31 v55 v58 v65 v79 v87 v91 v92 v96 v114 v129 => 
  kLen true v0 S fun v130 S130 =>
  kBin .gtr v130 (.int .i64 0) S130 fun v131 S131 =>
  bl v131 fun b => cond b
   (kIdxS v0 (.int .i64 0) S131 fun v132 S132 =>
   kBin .eql v132 (.int .u8 43) S132 fun v133 S133 =>
   bl v133 fun b => cond b
    (κ .normal (V27.mk v0 v2 v3 v4 v5 v6 v7 v8 v9 v10 v11 v12 v13 v14 v15 (.bool true) v31 v55 v58 v65 v79 v87 v91 v92 v96 v114 v129) S133)
    (kIdxS v0 (.int .i64 0) S133 fun v134 S134 =>
    kBin .eql v134 (.int .u8 45) S134 fun v135 S135 =>
    κ .normal (V27.mk v0 v2 v3 v4 v5 v6 v7 v8 v9 v10 v11 v12 v13 v14 v15 v135 v31 v55 v58 v65 v79 v87 v91 v92 v96 v114 v129) S135))
   (κ .normal (V27.mk v0 v2 v3 v4 v5 v6 v7 v8 v9 v10 v11 v12 v13 v14 v15 (.bool false) v31 v55 v58 v65 v79 v87 v91 v92 v96 v114 v129) S131))
def c107_3 : V27 → Value := fun v => (V27.casesOn v fun v0 v2 v3 v4 v5 v6 v7 v8 v9 v10 v11 v12 v13 v14 v15 v28 v31 v55 v58 v65 v79 v87 v91 v92 v96 v114 v129 => v28)
def c107_4 (C : Callee) : Cd V27 := fun v S κ => (V27.casesOn v fun v0 v2 v3 v4 v5 v6 v7 v8 v9 v10 v11 v12 v13 v14 v15 v28 v31 v55 v58 v65 v79 v87 v91 v92 v96 v114 v129 => 
  kIdxS v0 (.int .i64 0) S fun v130 S130 =>
  kBin .eql v130 (.int .u8 45) S130 fun v131 S131 =>
  κ .normal (V27.mk v0 v2 v3 v4 v5 v6 v7 v8 v9 v10 v11 v12 v13 v14 v15 v28 v131 v55 v58 v65 v79 v87 v91 v92 v96 v114 v129) S131)
def c107_5 : V27 → Value := fun v => (V27.casesOn v fun v0 v2 v3 v4 v5 v6 v7 v8 v9 v10 v11 v12 v13 v14 v15 v28 v31 v55 v58 v65 v79 v87 v91 v92 v96 v114 v129 => v31)
def c107_6 (C : Callee) : Cd V27 := fun v S κ => (V27.casesOn v fun v0 v2 v3 v4 v5 v6 v7 v8 v9 v10 v11 v12 v13 v14 v15 v28 v31 v55 v58 v65 v79 v87 v91 v92 v96 v114 v129 => 
  κ .normal (V27.mk v0 v2 v3 (.int .u64 9223372036854775808) v5 v6 v7 v8 v9 v10 v11 v12 v13 v14 v15 v28 v31 v55 v58 v65 v79 v87 v91 v92 v96 v114 v129) S)
def c107_7 (C : Callee) : Cd V27 := fun v S κ => (V27.casesOn v fun v0 v2 v3 v4 v5 v6 v7 v8 v9 v10 v11 v12 v13 v14 v15 v28 v31 v55 v58 v65 v79 v87 v91 v92 v96 v114 v129 => 
  kSlS v0 (some (.int .i64 1)) none S fun v130 S130 =>
  κ .normal (V27.mk v130 v2 v3 v4 v5 v6 v7 v8 v9 v10 v11 v12 v13 v14 v15 v28 v31 v55 v58 v65 v79 v87 v91 v92 v96 v114 v129) S130)
def c107_8 (C : Callee) : Cd V27 := fun v S κ => (V27.casesOn v fun v0 v2 v3 v4 v5 v6 v7 v8 v9 v10 v11 v12 v13 v14 v15 v28 v31 v55 v58 v65 v79 v87 v91 v92 v96 v114 v129 => 
  κ .normal (V27.mk v0 v2 v3 v4 (.slice none 0 0) v6 v7 v8 v9 v10 v11 v12 v13 v14 v15 v28 v31 v55 v58 v65 v79 v87 v91 v92 v96 v114 v129) S)
def c107_9 (C : Callee) : Cd V27 := fun v S κ => (V27.casesOn v fun v0 v2 v3 v4 v5 v6 v7 v8 v9 v10 v11 v12 v13 v14 v15 v28 v31 v55 v58 v65 v79 v87 v91 v92 v96 v114 v129 => 
  κ .normal (V27.mk v0 v2 v3 v4 v5 (.bool false) (.int .i64 0) v8 v9 v10 v11 v12 v13 v14 v15 v28 v31 v55 v58 v65 v79 v87 v91 v92 v96 v114 v129) S)
def c107_10 (C : Callee) : Cd V27 := fun v S κ => (V27.casesOn v fun v0 v2 v3 v4 v5 v6 v7 v8 v9 v10 v11 v12 v13 v14 v15 v28 v31 v55 v58 v65 v79 v87 v91 v92 v96 v114 v129 => 
  kLen true v0 S fun v130 S130 =>
  kBin .gtr v130 (.int .i64 0) S130 fun v131 S131 =>
  bl v131 fun b => cond b
   (kIdxS v0 (.int .i64 0) S131 fun v132 S132 =>
   kBin .geq v132 (.int .u8 48) S132 fun v133 S133 =>
   bl v133 fun b => cond b
    (kIdxS v0 (.int .i64 0) S133 fun v134 S134 =>
    kBin .leq v134 (.int .u8 57) S134 fun v135 S135 =>
    bl v135 fun b => cond b
     (κ .normal (V27.mk v0 v2 v3 v4 v5 v6 v7 v8 v9 v10 v11 v12 v13 v14 v15 v28 v31 (.bool true) v58 v65 v79 v87 v91 v92 v96 v114 v129) S135)
     (kIdxS v0 (.int .i64 0) S135 fun v136 S136 =>
     kBin .eql v136 (.int .u8 46) S136 fun v137 S137 =>
     bl v137 fun b => cond b
      (kUn .not v6 S137 fun v138 S138 =>
      κ .normal (V27.mk v0 v2 v3 v4 v5 v6 v7 v8 v9 v10 v11 v12 v13 v14 v15 v28 v31 v138 v58 v65 v79 v87 v91 v92 v96 v114 v129) S138)
      (κ .normal (V27.mk v0 v2 v3 v4 v5 v6 v7 v8 v9 v10 v11 v12 v13 v14 v15 v28 v31 (.bool false) v58 v65 v79 v87 v91 v92 v96 v114 v129) S137)))
    (kIdxS v0 (.int .i64 0) S133 fun v134 S134 =>
    kBin .eql v134 (.int .u8 46) S134 fun v135 S135 =>
    bl v135 fun b => cond b
     (kUn .not v6 S135 fun v136 S136 =>
     κ .normal (V27.mk v0 v2 v3 v4 v5 v6 v7 v8 v9 v10 v11 v12 v13 v14 v15 v28 v31 v136 v58 v65 v79 v87 v91 v92 v96 v114 v129) S136)
     (κ .normal (V27.mk v0 v2 v3 v4 v5 v6 v7 v8 v9 v10 v11 v12 v13 v14 v15 v28 v31 (.bool false) v58 v65 v79 v87 v91 v92 v96 v114 v129) S135)))
   (κ .normal (V27.mk v0 v2 v3 v4 v5 v6 v7 v8 v9 v10 v11 v12 v13 v14 v15 v28 v31 (.bool false) v58 v65 v79 v87 v91 v92 v96 v114 v129) S131))
def c107_11 : V27 → Value := fun v => (V27.casesOn v fun v0 v2 v3 v4 v5 v6 v7 v8 v9 v10 v11 v12 v13 v14 v15 v28 v31 v55 v58 v65 v79 v87 v91 v92 v96 v114 v129 => v55)
def c107_12 (C : Callee) : Cd V27 := fun v S κ => (V27.casesOn v fun v0 v2 v3 v4 v5 v6 v7 v8 v9 v10 v11 v12 v13 v14 v15 v28 v31 v55 v58 v65 v79 v87 v91 v92 v96 v114 v129 => 
  kIdxS v0 (.int .i64 0) S fun v130 S130 =>
  kBin .eql v130 (.int .u8 46) S130 fun v131 S131 =>
  κ .normal (V27.mk v0 v2 v3 v4 v5 v6 v7 v8 v9 v10 v11 v12 v13 v14 v15 v28 v31 v55 v131 v65 v79 v87 v91 v92 v96 v114 v129) S131)
def c107_13 : V27 → Value := fun v => (V27.casesOn v fun v0 v2 v3 v4 v5 v6 v7 v8 v9 v10 v11 v12 v13 v14 v15 v28 v31 v55 v58 v65 v79 v87 v91 v92 v96 v114 v129 => v58)
def c107_14 (C : Callee) : Cd V27 := fun v S κ => (V27.casesOn v fun v0 v2 v3 v4 v5 v6 v7 v8 v9 v10 v11 v12 v13 v14 v15 v28 v31 v55 v58 v65 v79 v87 v91 v92 v96 v114 v129 => 
  κ .normal (V27.mk v0 v2 v3 v4 v5 (.bool true) v7 v8 v9 v10 v11 v12 v13 v14 v15 v28 v31 v55 v58 v65 v79 v87 v91 v92 v96 v114 v129) S)
def c107_15 (C : Callee) : Cd V27 := fun v S κ => (V27.casesOn v fun v0 v2 v3 v4 v5 v6 v7 v8 v9 v10 v11 v12 v13 v14 v15 v28 v31 v55 v58 v65 v79 v87 v91 v92 v96 v114 v129 => 
  kIdxS v0 (.int .i64 0) S fun v130 S130 =>
  kBin .sub v130 (.int .u8 48) S130 fun v131 S131 =>
  kLit 5 1 [.int .u8 0] 1 [(0, 1, v131)] S131 fun v132 S132 =>
  kApp 5 1 1 v5 v132 S132 fun v133 S133 =>
  κ .normal (V27.mk v0 v2 v3 v4 v133 v6 v7 v8 v9 v10 v11 v12 v13 v14 v15 v28 v31 v55 v58 v65 v79 v87 v91 v92 v96 v114 v129) S133)
def c107_16 (C : Callee) : Cd V27 := fun v S κ => (V27.casesOn v fun v0 v2 v3 v4 v5 v6 v7 v8 v9 v10 v11 v12 v13 v14 v15 v28 v31 v55 v58 v65 v79 v87 v91 v92 v96 v114 v129 => 
  κ .normal (V27.mk v0 v2 v3 v4 v5 v6 v7 v8 v9 v10 v11 v12 v13 v14 v15 v28 v31 v55 v58 v6 v79 v87 v91 v92 v96 v114 v129) S)
def c107_17 : V27 → Value := fun v => (V27.casesOn v fun v0 v2 v3 v4 v5 v6 v7 v8 v9 v10 v11 v12 v13 v14 v15 v28 v31 v55 v58 v65 v79 v87 v91 v92 v96 v114 v129 => v65)
def c107_18 (C : Callee) : Cd V27 := fun v S κ => (V27.casesOn v fun v0 v2 v3 v4 v5 v6 v7 v8 v9 v10 v11 v12 v13 v14 v15 v28 v31 v55 v58 v65 v79 v87 v91 v92 v96 v114 v129 => 
  kBin .add v7 (.int .i64 1) S fun v130 S130 =>
  κ .normal (V27.mk v0 v2 v3 v4 v5 v6 v130 v8 v9 v10 v11 v12 v13 v14 v15 v28 v31 v55 v58 v65 v79 v87 v91 v92 v96 v114 v129) S130)
def c107_19 (C : Callee) : Cd V27 := fun v S κ => (V27.casesOn v fun v0 v2 v3 v4 v5 v6 v7 v8 v9 v10 v11 v12 v13 v14 v15 v28 v31 v55 v58 v65 v79 v87 v91 v92 v96 v114 v129 => 
  kSlS v0 (some (.int .i64 1)) none S fun v130 S130 =>
  κ .normal (V27.mk v130 v2 v3 v4 v5 v6 v7 v8 v9 v10 v11 v12 v13 v14 v15 v28 v31 v55 v58 v65 v79 v87 v91 v92 v96 v114 v129) S130)
def c107_20 (C : Callee) (n : Nat) : Cd V27 := seqK (seqK (c107_10 C) (condK c107_11 (skipK) (exitK 0))) (blockK 1 (seqK (seqK (c107_12 C) (condK c107_13 (c107_14 C) (seqK (c107_15 C) (seqK (c107_16 C) (condK c107_17 (c107_18 C) (skipK)))))) (c107_19 C)))
def c107_21 (C : Callee) : Cd V27 := fun v S κ => (V27.casesOn v fun v0 v2 v3 v4 v5 v6 v7 v8 v9 v10 v11 v12 v13 v14 v15 v28 v31 v55 v58 v65 v79 v87 v91 v92 v96 v114 v129 => 
  kLen false v5 S fun v130 S130 =>
  kBin .eql v130 (.int .i64 0) S130 fun v131 S131 =>
  bl v131 fun b => cond b
   (κ .normal (V27.mk v0 v2 v3 v4 v5 v6 v7 v8 v9 v10 v11 v12 v13 v14 v15 v28 v31 v55 v58 v65 (.bool true) v87 v91 v92 v96 v114 v129) S131)
   (bl v6 fun b => cond b
    (kBin .eql v7 (.int .i64 0) S131 fun v132 S132 =>
    κ .normal (V27.mk v0 v2 v3 v4 v5 v6 v7 v8 v9 v10 v11 v12 v13 v14 v15 v28 v31 v55 v58 v65 v132 v87 v91 v92 v96 v114 v129) S132)
    (κ .normal (V27.mk v0 v2 v3 v4 v5 v6 v7 v8 v9 v10 v11 v12 v13 v14 v15 v28 v31 v55 v58 v65 (.bool false) v87 v91 v92 v96 v114 v129) S131)))
def c107_22 : V27 → Value := fun v => (V27.casesOn v fun v0 v2 v3 v4 v5 v6 v7 v8 v9 v10 v11 v12 v13 v14 v15 v28 v31 v55 v58 v65 v79 v87 v91 v92 v96 v114 v129 => v79)
def c107_23 (C : Callee) : Cd V27 := fun v S κ => (V27.casesOn v fun v0 v2 v3 v4 v5 v6 v7 v8 v9 v10 v11 v12 v13 v14 v15 v28 v31 v55 v58 v65 v79 v87 v91 v92 v96 v114 v129 => 
  κ .normal (V27.mk v0 (.int .u64 0) (.int .i64 2) v4 v5 v6 v7 v8 v9 v10 v11 v12 v13 v14 v15 v28 v31 v55 v58 v65 v79 v87 v91 v92 v96 v114 v129) S)
def c107_24 (C : Callee) : Cd V27 := fun v S κ => (V27.casesOn v fun v0 v2 v3 v4 v5 v6 v7 v8 v9 v10 v11 v12 v13 v14 v15 v28 v31 v55 v58 v65 v79 v87 v91 v92 v96 v114 v129 => 
  kCall C 123 [v0] S fun v130 S130 =>
  kExt 0 v130 S130 fun v131 S131 =>
  kExt 1 v130 S131 fun v132 S132 =>
  kExt 2 v130 S132 fun v133 S133 =>
  κ .normal (V27.mk v0 v2 v3 v4 v5 v6 v7 v131 v132 v133 v11 v12 v13 v14 v15 v28 v31 v55 v58 v65 v79 v87 v91 v92 v96 v114 v129) S133)
def c107_25 (C : Callee) : Cd V27 := fun v S κ => (V27.casesOn v fun v0 v2 v3 v4 v5 v6 v7 v8 v9 v10 v11 v12 v13 v14 v15 v28 v31 v55 v58 v65 v79 v87 v91 v92 v96 v114 v129 => 
  kBin .neq v10 (.int .i64 0) S fun v130 S130 =>
  κ .normal (V27.mk v0 v2 v3 v4 v5 v6 v7 v8 v9 v10 v11 v12 v13 v14 v15 v28 v31 v55 v58 v65 v79 v130 v91 v92 v96 v114 v129) S130)
def c107_26 : V27 → Value := fun v => (V27.casesOn v fun v0 v2 v3 v4 v5 v6 v7 v8 v9 v10 v11 v12 v13 v14 v15 v28 v31 v55 v58 v65 v79 v87 v91 v92 v96 v114 v129 => v87)
def c107_27 (C : Callee) : Cd V27 := fun v S κ => (V27.casesOn v fun v0 v2 v3 v4 v5 v6 v7 v8 v9 v10 v11 v12 v13 v14 v15 v28 v31 v55 v58 v65 v79 v87 v91 v92 v96 v114 v129 => 
  κ .normal (V27.mk v0 (.int .u64 0) v10 v4 v5 v6 v7 v8 v9 v10 v11 v12 v13 v14 v15 v28 v31 v55 v58 v65 v79 v87 v91 v92 v96 v114 v129) S)
def c107_28 (C : Callee) : Cd V27 := fun v S κ => (V27.casesOn v fun v0 v2 v3 v4 v5 v6 v7 v8 v9 v10 v11 v12 v13 v14 v15 v28 v31 v55 v58 v65 v79 v87 v91 v92 v96 v114 v129 => 
  kLen false v5 S fun v130 S130 =>
  kBin .gtr v130 (.int .i64 60) S130 fun v131 S131 =>
  κ .normal (V27.mk v0 v2 v3 v4 v5 v6 v7 v8 v9 v10 v11 v12 v13 v14 v15 v28 v31 v55 v58 v65 v79 v87 v131 v92 v96 v114 v129) S131)
def c107_29 : V27 → Value := fun v => (V27.casesOn v fun v0 v2 v3 v4 v5 v6 v7 v8 v9 v10 v11 v12 v13 v14 v15 v28 v31 v55 v58 v65 v79 v87 v91 v92 v96 v114 v129 => v91)
def c107_30 (C : Callee) : Cd V27 := fun v S κ => (V27.casesOn v fun v0 v2 v3 v4 v5 v6 v7 v8 v9 v10 v11 v12 v13 v14 v15 v28 v31 v55 v58 v65 v79 v87 v91 v92 v96 v114 v129 => 
  κ .normal (V27.mk v0 (.int .u64 0) (.int .i64 4) v4 v5 v6 v7 v8 v9 v10 v11 v12 v13 v14 v15 v28 v31 v55 v58 v65 v79 v87 v91 v92 v96 v114 v129) S)
def c107_31 (C : Callee) : Cd V27 := fun v S κ => (V27.casesOn v fun v0 v2 v3 v4 v5 v6 v7 v8 v9 v10 v11 v12 v13 v14 v15 v28 v31 v55 v58 v65 v79 v87 v91 v92 v96 v114 v129 => 
  κ .normal (V27.mk v0 v2 v3 v4 v5 v6 v7 v8 v9 v10 v11 v12 v13 v14 v15 v28 v31 v55 v58 v65 v79 v87 v91 v9 v96 v114 v129) S)
def c107_32 : V27 → Value := fun v => (V27.casesOn v fun v0 v2 v3 v4 v5 v6 v7 v8 v9 v10 v11 v12 v13 v14 v15 v28 v31 v55 v58 v65 v79 v87 v91 v92 v96 v114 v129 => v92)
def c107_33 (C : Callee) : Cd V27 := fun v S κ => (V27.casesOn v fun v0 v2 v3 v4 v5 v6 v7 v8 v9 v10 v11 v12 v13 v14 v15 v28 v31 v55 v58 v65 v79 v87 v91 v92 v96 v114 v129 => 
  κ .normal (V27.mk v0 (.int .u64 0) (.int .i64 5) v4 v5 v6 v7 v8 v9 v10 v11 v12 v13 v14 v15 v28 v31 v55 v58 v65 v79 v87 v91 v92 v96 v114 v129) S)
def c107_34 (C : Callee) : Cd V27 := fun v S κ => (V27.casesOn v fun v0 v2 v3 v4 v5 v6 v7 v8 v9 v10 v11 v12 v13 v14 v15 v28 v31 v55 v58 v65 v79 v87 v91 v92 v96 v114 v129 => 
  κ .normal (V27.mk v0 v2 v3 v4 v5 v6 v7 v8 v9 v10 (.slice none 0 0) v12 v13 v14 v15 v28 v31 v55 v58 v65 v79 v87 v91 v92 v96 v114 v129) S)
def c107_35 (C : Callee) : Cd V27 := fun v S κ => (V27.casesOn v fun v0 v2 v3 v4 v5 v6 v7 v8 v9 v10 v11 v12 v13 v14 v15 v28 v31 v55 v58 v65 v79 v87 v91 v92 v96 v114 v129 => 
  κ .normal (V27.mk v0 v2 v3 v4 v5 v6 v7 v8 v9 v10 v11 (.int .i64 0) v13 v14 v15 v28 v31 v55 v58 v65 v79 v87 v91 v92 v96 v114 v129) S)
def c107_36 (C : Callee) : Cd V27 := fun v S κ => (V27.casesOn v fun v0 v2 v3 v4 v5 v6 v7 v8 v9 v10 v11 v12 v13 v14 v15 v28 v31 v55 v58 v65 v79 v87 v91 v92 v96 v114 v129 => 
  kLen false v5 S fun v130 S130 =>
  kBin .lss v12 v130 S130 fun v131 S131 =>
  κ .normal (V27.mk v0 v2 v3 v4 v5 v6 v7 v8 v9 v10 v11 v12 v13 v14 v15 v28 v31 v55 v58 v65 v79 v87 v91 v92 v131 v114 v129) S131)
def c107_37 : V27 → Value := fun v => (V27.casesOn v fun v0 v2 v3 v4 v5 v6 v7 v8 v9 v10 v11 v12 v13 v14 v15 v28 v31 v55 v58 v65 v79 v87 v91 v92 v96 v114 v129 => v96)
def c107_38 (C : Callee) : Cd V27 := fun v S κ => (V27.casesOn v fun v0 v2 v3 v4 v5 v6 v7 v8 v9 v10 v11 v12 v13 v14 v15 v28 v31 v55 v58 v65 v79 v87 v91 v92 v96 v114 v129 => 
  kLit 165 1 [.int .u32 0] 1 [(0, 1, (.int .u32 10))] S fun v130 S130 =>
  kIad 1 v5 v12 S130 fun v131 S131 =>
  kLd none v131 S131 fun v132 S132 =>
  kCvI .u64 v132 S132 fun v133 S133 =>
  kLd none v131 S133 fun u _ => cond (veqB u v132)
   (kCall C 115 [v11, v130] S133 fun v134 S134 =>
   kLd none v131 S134 fun u _ => cond (veqB u v132)
    (kCall C 111 [v133] S134 fun v135 S135 =>
    kCall C 119 [v134, v135] S135 fun v136 S136 =>
    κ .normal (V27.mk v0 v2 v3 v4 v5 v6 v7 v8 v9 v10 v136 v12 v13 v14 v15 v28 v31 v55 v58 v65 v79 v87 v91 v92 v96 v114 v129) S136) none) none)
def c107_39 (C : Callee) : Cd V27 := fun v S κ => (V27.casesOn v fun v0 v2 v3 v4 v5 v6 v7 v8 v9 v10 v11 v12 v13 v14 v15 v28 v31 v55 v58 v65 v79 v87 v91 v92 v96 v114 v129 => 
  kBin .add v12 (.int .i64 1) S fun v130 S130 =>
  κ .normal (V27.mk v0 v2 v3 v4 v5 v6 v7 v8 v9 v10 v11 v130 v13 v14 v15 v28 v31 v55 v58 v65 v79 v87 v91 v92 v96 v114 v129) S130)
def c107_40 (C : Callee) (n : Nat) : Cd V27 := seqK (seqK (c107_36 C) (condK c107_37 (skipK) (exitK 2))) (seqK (blockK 3 (c107_38 C)) (c107_39 C))
def c107_41 (C : Callee) : Cd V27 := fun v S κ => (V27.casesOn v fun v0 v2 v3 v4 v5 v6 v7 v8 v9 v10 v11 v12 v13 v14 v15 v28 v31 v55 v58 v65 v79 v87 v91 v92 v96 v114 v129 => 
  kLit 165 1 [.int .u32 0] 1 [(0, 1, (.int .u32 1))] S fun v130 S130 =>
  κ .normal (V27.mk v0 v2 v3 v4 v5 v6 v7 v8 v9 v10 v11 v12 v130 v14 v15 v28 v31 v55 v58 v65 v79 v87 v91 v92 v96 v114 v129) S130)
def c107_42 (C : Callee) : Cd V27 := fun v S κ => (V27.casesOn v fun v0 v2 v3 v4 v5 v6 v7 v8 v9 v10 v11 v12 v13 v14 v15 v28 v31 v55 v58 v65 v79 v87 v91 v92 v96 v114 v129 => 
  kBin .sub v8 v7 S fun v130 S130 =>
  κ .normal (V27.mk v0 v2 v3 v4 v5 v6 v7 v130 v9 v10 v11 v12 v13 v14 v15 v28 v31 v55 v58 v65 v79 v87 v91 v92 v96 v114 v129) S130)
def c107_43 (C : Callee) : Cd V27 := fun v S κ => (V27.casesOn v fun v0 v2 v3 v4 v5 v6 v7 v8 v9 v10 v11 v12 v13 v14 v15 v28 v31 v55 v58 v65 v79 v87 v91 v92 v96 v114 v129 => 
  kBin .geq v8 (.int .i64 0) S fun v130 S130 =>
  κ .normal (V27.mk v0 v2 v3 v4 v5 v6 v7 v8 v9 v10 v11 v12 v13 v14 v15 v28 v31 v55 v58 v65 v79 v87 v91 v92 v96 v130 v129) S130)
def c107_44 : V27 → Value := fun v => (V27.casesOn v fun v0 v2 v3 v4 v5 v6 v7 v8 v9 v10 v11 v12 v13 v14 v15 v28 v31 v55 v58 v65 v79 v87 v91 v92 v96 v114 v129 => v114)
def c107_45 (C : Callee) : Cd V27 := fun v S κ => (V27.casesOn v fun v0 v2 v3 v4 v5 v6 v7 v8 v9 v10 v11 v12 v13 v14 v15 v28 v31 v55 v58 v65 v79 v87 v91 v92 v96 v114 v129 => 
  kCall C 116 [v8] S fun v130 S130 =>
  kCall C 115 [v11, v130] S130 fun v131 S131 =>
  κ .normal (V27.mk v0 v2 v3 v4 v5 v6 v7 v8 v9 v10 v131 v12 v13 v14 v15 v28 v31 v55 v58 v65 v79 v87 v91 v92 v96 v114 v129) S131)
def c107_46 (C : Callee) : Cd V27 := fun v S κ => (V27.casesOn v fun v0 v2 v3 v4 v5 v6 v7 v8 v9 v10 v11 v12 v13 v14 v15 v28 v31 v55 v58 v65 v79 v87 v91 v92 v96 v114 v129 => 
  kUn .neg v8 S fun v130 S130 =>
  kCall C 116 [v130] S130 fun v131 S131 =>
  κ .normal (V27.mk v0 v2 v3 v4 v5 v6 v7 v8 v9 v10 v11 v12 v131 v14 v15 v28 v31 v55 v58 v65 v79 v87 v91 v92 v96 v114 v129) S131)
def c107_47 (C : Callee) : Cd V27 := fun v S κ => (V27.casesOn v fun v0 v2 v3 v4 v5 v6 v7 v8 v9 v10 v11 v12 v13 v14 v15 v28 v31 v55 v58 v65 v79 v87 v91 v92 v96 v114 v129 => 
  kCall C 124 [v11, v13] S fun v130 S130 =>
  kExt 0 v130 S130 fun v131 S131 =>
  kExt 1 v130 S131 fun v132 S132 =>
  κ .normal (V27.mk v0 v2 v3 v4 v5 v6 v7 v8 v9 v10 v11 v12 v13 v131 v132 v28 v31 v55 v58 v65 v79 v87 v91 v92 v96 v114 v129) S132)
def c107_48 (C : Callee) : Cd V27 := fun v S κ => (V27.casesOn v fun v0 v2 v3 v4 v5 v6 v7 v8 v9 v10 v11 v12 v13 v14 v15 v28 v31 v55 v58 v65 v79 v87 v91 v92 v96 v114 v129 => 
  kUn .not v15 S fun v130 S130 =>
  κ .normal (V27.mk v0 v2 v3 v4 v5 v6 v7 v8 v9 v10 v11 v12 v13 v14 v15 v28 v31 v55 v58 v65 v79 v87 v91 v92 v96 v114 v130) S130)
def c107_49 : V27 → Value := fun v => (V27.casesOn v fun v0 v2 v3 v4 v5 v6 v7 v8 v9 v10 v11 v12 v13 v14 v15 v28 v31 v55 v58 v65 v79 v87 v91 v92 v96 v114 v129 => v129)
def c107_50 (C : Callee) : Cd V27 := fun v S κ => (V27.casesOn v fun v0 v2 v3 v4 v5 v6 v7 v8 v9 v10 v11 v12 v13 v14 v15 v28 v31 v55 v58 v65 v79 v87 v91 v92 v96 v114 v129 => 
  κ .normal (V27.mk v0 (.int .u64 0) (.int .i64 5) v4 v5 v6 v7 v8 v9 v10 v11 v12 v13 v14 v15 v28 v31 v55 v58 v65 v79 v87 v91 v92 v96 v114 v129) S)
def c107_51 (C : Callee) : Cd V27 := fun v S κ => (V27.casesOn v fun v0 v2 v3 v4 v5 v6 v7 v8 v9 v10 v11 v12 v13 v14 v15 v28 v31 v55 v58 v65 v79 v87 v91 v92 v96 v114 v129 => 
  kBin .or v4 v14 S fun v130 S130 =>
  κ .normal (V27.mk v0 v130 (.int .i64 0) v4 v5 v6 v7 v8 v9 v10 v11 v12 v13 v14 v15 v28 v31 v55 v58 v65 v79 v87 v91 v92 v96 v114 v129) S130)
/-- assayer/assayerref1.Parse -/
def c107 (C : Callee) (n : Nat) : Cd V27 := seqK (c107_0 C) (seqK (c107_1 C) (seqK (seqK (c107_2 C) (condK c107_3 (seqK (seqK (c107_4 C) (condK c107_5 (c107_6 C) (skipK))) (c107_7 C)) (skipK))) (seqK (c107_8 C) (seqK (c107_9 C) (seqK (blockK 0 (loopK n (c107_20 C n))) (seqK (seqK (c107_21 C) (condK c107_22 (seqK (c107_23 C) (retK)) (skipK))) (seqK (c107_24 C) (seqK (seqK (c107_25 C) (condK c107_26 (seqK (c107_27 C) (retK)) (skipK))) (seqK (seqK (c107_28 C) (condK c107_29 (seqK (c107_30 C) (retK)) (skipK))) (seqK (seqK (c107_31 C) (condK c107_32 (seqK (c107_33 C) (retK)) (skipK))) (seqK (c107_34 C) (seqK (seqK (c107_35 C) (blockK 2 (loopK n (c107_40 C n)))) (seqK (c107_41 C) (seqK (c107_42 C) (seqK (seqK (c107_43 C) (condK c107_44 (c107_45 C) (c107_46 C))) (seqK (c107_47 C) (seqK (seqK (c107_48 C) (condK c107_49 (seqK (c107_50 C) (retK)) (skipK))) (seqK (c107_51 C) (retK)))))))))))))))))))
def r107 (v : V27) (S : AW) : R := (V27.casesOn v fun v0 v2 v3 v4 v5 v6 v7 v8 v9 v10 v11 v12 v13 v14 v15 v28 v31 v55 v58 v65 v79 v87 v91 v92 v96 v114 v129 => some (.tuple #[v2, v3], S))
def g107 (C : Callee) (n : Nat) (args : List Value) (S : AW) : R := c107 C n (V27.mk (argV args 0) (argV args 2) (argV args 3) (argV args 4) (argV args 5) (argV args 6) (argV args 7) (argV args 8) (argV args 9) (argV args 10) (argV args 11) (argV args 12) (argV args 13) (argV args 14) (argV args 15) (argV args 28) (argV args 31) (argV args 55) (argV args 58) (argV args 65) (argV args 79) (argV args 87) (argV args 91) (argV args 92) (argV args 96) (argV args 114) (argV args 129)) S fun o v S => EX.casesOn o (r107 v S) (fun _ => none) (r107 v S)
/-! (*assayer/assayerref5.lexer).behind -/
def c108_0 (C : Callee) : Cd V7 := fun v S κ => (V7.casesOn v fun v0 v1 v2 v4 v6 v8 v47 => 
  kBox 118 5 v1 S fun v48 S48 =>
  kNew 118 5 [.int .i64 0, .string ⟨#[]⟩, .int .i64 0, .int .u64 0, .int .i64 0] S48 fun v49 S49 =>
  κ .normal (V7.mk v0 v1 v2 v48 v49 v8 v47) S49)
def c108_1 (C : Callee) : Cd V7 := fun v S κ => (V7.casesOn v fun v0 v1 v2 v4 v6 v8 v47 => 
  kBin .neq v2 (.int .i64 0) S fun v48 S48 =>
  κ .normal (V7.mk v0 v1 v2 v4 v6 v48 v47) S48)
def c108_2 : V7 → Value := fun v => (V7.casesOn v fun v0 v1 v2 v4 v6 v8 v47 => v8)
def c108_3 (C : Callee) : Cd V7 := fun v S κ => (V7.casesOn v fun v0 v1 v2 v4 v6 v8 v47 => 
  kFad 4 v4 S fun v48 S48 =>
  kLd none v48 S48 fun v49 S49 =>
  kCall C 85 [v0, v2, v49] S49 fun v50 S50 =>
  κ .normal (V7.mk v0 v1 v2 v4 v6 v8 v47) S50)
def c108_4 (C : Callee) : Cd V7 := fun v S κ => (V7.casesOn v fun v0 v1 v2 v4 v6 v8 v47 => 
  kNilc v0 S fun v48 S48 =>
  kFad 1 v48 S48 fun v49 S49 =>
  kLd none v49 S49 fun v50 S50 =>
  kNilc v0 S50 fun v51 S51 =>
  kFad 0 v51 S51 fun v52 S52 =>
  kLd none v52 S52 fun v53 S53 =>
  kLen true v53 S53 fun v54 S54 =>
  kBin .lss v50 v54 S54 fun v55 S55 =>
  bl v55 fun b => cond b
   (kNilc v0 S55 fun v56 S56 =>
   kFad 0 v56 S56 fun v57 S57 =>
   kLd none v57 S57 fun v58 S58 =>
   kNilc v0 S58 fun v59 S59 =>
   kFad 1 v59 S59 fun v60 S60 =>
   kLd none v60 S60 fun v61 S61 =>
   kIdxS v58 v61 S61 fun v62 S62 =>
   kCall C 26 [v62] S62 fun v63 S63 =>
   bl v63 fun b => cond b
    (κ .normal (V7.mk v0 v1 v2 v4 v6 v8 (.bool true)) S63)
    (kNilc v0 S63 fun v64 S64 =>
    kFad 0 v64 S64 fun v65 S65 =>
    kLd none v65 S65 fun v66 S66 =>
    kNilc v0 S66 fun v67 S67 =>
    kFad 1 v67 S67 fun v68 S68 =>
    kLd none v68 S68 fun v69 S69 =>
    kIdxS v66 v69 S69 fun v70 S70 =>
    kBin .eql v70 (.int .u8 46) S70 fun v71 S71 =>
    κ .normal (V7.mk v0 v1 v2 v4 v6 v8 v71) S71))
   (κ .normal (V7.mk v0 v1 v2 v4 v6 v8 (.bool false)) S55))
def c108_5 : V7 → Value := fun v => (V7.casesOn v fun v0 v1 v2 v4 v6 v8 v47 => v47)
def c108_6 (C : Callee) : Cd V7 := fun v S κ => (V7.casesOn v fun v0 v1 v2 v4 v6 v8 v47 => 
  kNilc v0 S fun v48 S48 =>
  kFad 1 v48 S48 fun v49 S49 =>
  kLd none v49 S49 fun v50 S50 =>
  kCall C 85 [v0, (.int .i64 2), v50] S50 fun v51 S51 =>
  κ .normal (V7.mk v0 v1 v2 v4 v6 v8 v47) S51)
def c108_7 (C : Callee) : Cd V7 := fun v S κ => (V7.casesOn v fun v0 v1 v2 v4 v6 v8 v47 => 
  kLd (some 5) v4 S fun v48 S48 =>
  kSt 5 v6 v48 S48 fun v49 S49 =>
  κ .normal (V7.mk v0 v1 v2 v4 v6 v8 v47) S49)
/-- (*assayer/assayerref5.lexer).behind -/
def c108 (C : Callee) (n : Nat) : Cd V7 := seqK (c108_0 C) (seqK (seqK (c108_1 C) (condK c108_2 (c108_3 C) (seqK (c108_4 C) (condK c108_5 (c108_6 C) (skipK))))) (seqK (c108_7 C) (retK)))
def r108 (v : V7) (S : AW) : R := (V7.casesOn v fun v0 v1 v2 v4 v6 v8 v47 => kLd (some 5) v6 S fun r6 _ => some (r6, S))
def g108 (C : Callee) (n : Nat) (args : List Value) (S : AW) : R := c108 C n (V7.mk (argV args 0) (argV args 1) (argV args 2) (argV args 4) (argV args 6) (argV args 8) (argV args 47)) S fun o v S => EX.casesOn o (r108 v S) (fun _ => none) (r108 v S)
/-! assayer/assayerref5.word -/
def c109_0 (C : Callee) : Cd V6 := fun v S κ => (V6.casesOn v fun v0 v2 v3 v4 v9 v18 => 
  κ .normal (V6.mk v0 (.string ⟨#[]⟩) v3 v4 v9 v18) S)
def c109_1 (C : Callee) : Cd V6 := fun v S κ => (V6.casesOn v fun v0 v2 v3 v4 v9 v18 => 
  kLit 9 1 [.string ⟨#[]⟩] 11 [(0, 1, (.string ⟨#[98, 111, 111, 108]⟩)), (1, 1, (.string ⟨#[105, 56]⟩)), (2, 1, (.string ⟨#[105, 49, 54]⟩)), (3, 1, (.string ⟨#[105, 51, 50]⟩)), (4, 1, (.string ⟨#[105, 54, 52]⟩)), (5, 1, (.string ⟨#[100, 111, 117, 98, 108, 101]⟩)), (6, 1, (.string ⟨#[115, 116, 114, 105, 110, 103]⟩)), (7, 1, (.string ⟨#[98, 105, 110, 97, 114, 121]⟩)), (8, 1, (.string ⟨#[108, 105, 115, 116]⟩)), (9, 1, (.string ⟨#[115, 101, 116]⟩)), (10, 1, (.string ⟨#[109, 97, 112]⟩))] S fun v19 S19 =>
  κ .normal (V6.mk v0 v2 v19 v4 v9 v18) S19)
def c109_2 (C : Callee) : Cd V6 := fun v S κ => (V6.casesOn v fun v0 v2 v3 v4 v9 v18 => 
  κ .normal (V6.mk v0 v2 v3 (.int .i64 0) v9 v18) S)
def c109_3 (C : Callee) : Cd V6 := fun v S κ => (V6.casesOn v fun v0 v2 v3 v4 v9 v18 => 
  kLen false v3 S fun v19 S19 =>
  kBin .lss v4 v19 S19 fun v20 S20 =>
  κ .normal (V6.mk v0 v2 v3 v4 v20 v18) S20)
def c109_4 : V6 → Value := fun v => (V6.casesOn v fun v0 v2 v3 v4 v9 v18 => v9)
def c109_5 (C : Callee) : Cd V6 := fun v S κ => (V6.casesOn v fun v0 v2 v3 v4 v9 v18 => 
  kIad 1 v3 v4 S fun v19 S19 =>
  kLd none v19 S19 fun v20 S20 =>
  kCall C 41 [v20] S20 fun v21 S21 =>
  kBin .eql v21 v0 S21 fun v22 S22 =>
  κ .normal (V6.mk v0 v2 v3 v4 v9 v22) S22)
def c109_6 : V6 → Value := fun v => (V6.casesOn v fun v0 v2 v3 v4 v9 v18 => v18)
def c109_7 (C : Callee) : Cd V6 := fun v S κ => (V6.casesOn v fun v0 v2 v3 v4 v9 v18 => 
  kIad 1 v3 v4 S fun v19 S19 =>
  kLd none v19 S19 fun v20 S20 =>
  κ .normal (V6.mk v0 v20 v3 v4 v9 v18) S20)
def c109_8 (C : Callee) : Cd V6 := fun v S κ => (V6.casesOn v fun v0 v2 v3 v4 v9 v18 => 
  kBin .add v4 (.int .i64 1) S fun v19 S19 =>
  κ .normal (V6.mk v0 v2 v3 v19 v9 v18) S19)
def c109_9 (C : Callee) (n : Nat) : Cd V6 := seqK (seqK (c109_3 C) (condK c109_4 (skipK) (exitK 0))) (seqK (blockK 1 (seqK (c109_5 C) (condK c109_6 (seqK (c109_7 C) (retK)) (skipK)))) (c109_8 C))
def c109_10 (C : Callee) : Cd V6 := fun v S κ => (V6.casesOn v fun v0 v2 v3 v4 v9 v18 => 
  κ .normal (V6.mk v0 (.string ⟨#[]⟩) v3 v4 v9 v18) S)
/-- assayer/assayerref5.word -/
def c109 (C : Callee) (n : Nat) : Cd V6 := seqK (c109_0 C) (seqK (c109_1 C) (seqK (seqK (c109_2 C) (blockK 0 (loopK n (c109_9 C n)))) (seqK (c109_10 C) (retK))))
def r109 (v : V6) (S : AW) : R := (V6.casesOn v fun v0 v2 v3 v4 v9 v18 => some (v2, S))
def g109 (C : Callee) (n : Nat) (args : List Value) (S : AW) : R := c109 C n (V6.mk (argV args 0) (argV args 2) (argV args 3) (argV args 4) (argV args 9) (argV args 18)) S fun o v S => EX.casesOn o (r109 v S) (fun _ => none) (r109 v S)
/-! (*assayer/assayerref5.parser).begins -/
def c110_0 (C : Callee) : Cd V6 := fun v S κ => (V6.casesOn v fun v0 v2 v3 v7 v8 v12 => 
  κ .normal (V6.mk v0 (.bool false) v3 v7 v8 v12) S)
def c110_1 (C : Callee) : Cd V6 := fun v S κ => (V6.casesOn v fun v0 v2 v3 v7 v8 v12 => 
  kCall C 44 [v0] S fun v13 S13 =>
  kNew 118 5 [.int .i64 0, .string ⟨#[]⟩, .int .i64 0, .int .u64 0, .int .i64 0] S13 fun v14 S14 =>
  kSt 5 v14 v13 S14 fun v15 S15 =>
  κ .normal (V6.mk v0 v2 v14 v7 v8 v12) S15)
def c110_2 (C : Callee) : Cd V6 := fun v S κ => (V6.casesOn v fun v0 v2 v3 v7 v8 v12 => 
  kFad 0 v3 S fun v13 S13 =>
  kLd none v13 S13 fun v14 S14 =>
  κ .normal (V6.mk v0 v2 v3 v14 v8 v12) S14)
def c110_3 (C : Callee) : Cd V6 := fun v S κ => (V6.casesOn v fun v0 v2 v3 v7 v8 v12 => 
  kBin .eql v7 (.int .i64 2) S fun v13 S13 =>
  κ .normal (V6.mk v0 v2 v3 v7 v13 v12) S13)
def c110_4 : V6 → Value := fun v => (V6.casesOn v fun v0 v2 v3 v7 v8 v12 => v8)
def c110_5 (C : Callee) : Cd V6 := fun v S κ => (V6.casesOn v fun v0 v2 v3 v7 v8 v12 => 
  kBin .eql v7 (.int .i64 3) S fun v13 S13 =>
  κ .normal (V6.mk v0 v2 v3 v7 v13 v12) S13)
def c110_6 : V6 → Value := fun v => (V6.casesOn v fun v0 v2 v3 v7 v8 v12 => v8)
def c110_7 (C : Callee) : Cd V6 := fun v S κ => (V6.casesOn v fun v0 v2 v3 v7 v8 v12 => 
  kBin .eql v7 (.int .i64 4) S fun v13 S13 =>
  κ .normal (V6.mk v0 v2 v3 v7 v13 v12) S13)
def c110_8 : V6 → Value := fun v => (V6.casesOn v fun v0 v2 v3 v7 v8 v12 => v8)
def c110_9 (C : Callee) : Cd V6 := fun v S κ => (V6.casesOn v fun v0 v2 v3 v7 v8 v12 => 
  κ .normal (V6.mk v0 (.bool true) v3 v7 v8 v12) S)
def c110_10 (C : Callee) : Cd V6 := fun v S κ => (V6.casesOn v fun v0 v2 v3 v7 v8 v12 => 
  kBin .eql v7 (.int .i64 1) S fun v13 S13 =>
  κ .normal (V6.mk v0 v2 v3 v7 v8 v13) S13)
def c110_11 : V6 → Value := fun v => (V6.casesOn v fun v0 v2 v3 v7 v8 v12 => v12)
def c110_12 (C : Callee) : Cd V6 := fun v S κ => (V6.casesOn v fun v0 v2 v3 v7 v8 v12 => 
  kFad 1 v3 S fun v13 S13 =>
  kLd none v13 S13 fun v14 S14 =>
  kBin .eql v14 (.string ⟨#[116, 114, 117, 101]⟩) S14 fun v15 S15 =>
  bl v15 fun b => cond b
   (κ .normal (V6.mk v0 (.bool true) v3 v7 v8 v12) S15)
   (kFad 1 v3 S15 fun v16 S16 =>
   kLd none v16 S16 fun v17 S17 =>
   kBin .eql v17 (.string ⟨#[102, 97, 108, 115, 101]⟩) S17 fun v18 S18 =>
   bl v18 fun b => cond b
    (κ .normal (V6.mk v0 (.bool true) v3 v7 v8 v12) S18)
    (kFad 1 v3 S18 fun v19 S19 =>
    kLd none v19 S19 fun v20 S20 =>
    kCall C 89 [v20] S20 fun v21 S21 =>
    κ .normal (V6.mk v0 v21 v3 v7 v8 v12) S21)))
def c110_13 (C : Callee) : Cd V6 := fun v S κ => (V6.casesOn v fun v0 v2 v3 v7 v8 v12 => 
  kCall C 88 [v0, (.string ⟨#[91]⟩)] S fun v13 S13 =>
  bl v13 fun b => cond b
   (κ .normal (V6.mk v0 (.bool true) v3 v7 v8 v12) S13)
   (kCall C 88 [v0, (.string ⟨#[123]⟩)] S13 fun v14 S14 =>
   κ .normal (V6.mk v0 v14 v3 v7 v8 v12) S14))
/-- (*assayer/assayerref5.parser).begins -/
def c110 (C : Callee) (n : Nat) : Cd V6 := seqK (c110_0 C) (seqK (c110_1 C) (seqK (seqK (c110_2 C) (blockK 0 (seqK (seqK (c110_3 C) (condK c110_4 (skipK) (seqK (c110_5 C) (condK c110_6 (skipK) (c110_7 C))))) (condK c110_8 (seqK (c110_9 C) (retK)) (seqK (c110_10 C) (condK c110_11 (seqK (c110_12 C) (retK)) (skipK))))))) (seqK (c110_13 C) (retK))))
def r110 (v : V6) (S : AW) : R := (V6.casesOn v fun v0 v2 v3 v7 v8 v12 => some (v2, S))
def g110 (C : Callee) (n : Nat) (args : List Value) (S : AW) : R := c110 C n (V6.mk (argV args 0) (argV args 2) (argV args 3) (argV args 7) (argV args 8) (argV args 12)) S fun o v S => EX.casesOn o (r110 v S) (fun _ => none) (r110 v S)
/-! assayer/assayerref1.Of -/
def c111_0 (C : Callee) : Cd V2 := fun v S κ => (V2.casesOn v fun v0 v2 => 
  κ .normal (V2.mk v0 (.slice none 0 0)) S)
def c111_1 (C : Callee) : Cd V2 := fun v S κ => (V2.casesOn v fun v0 v2 => 
  kCvI .u32 v0 S fun v3 S3 =>
  kBin .shr v0 (.int .u64 32) S3 fun v4 S4 =>
  kCvI .u32 v4 S4 fun v5 S5 =>
  kLit 165 1 [.int .u32 0] 2 [(0, 1, v3), (1, 1, v5)] S5 fun v6 S6 =>
  kCall C 125 [v6] S6 fun v7 S7 =>
  κ .normal (V2.mk v0 v7) S7)
/-- assayer/assayerref1.Of -/
def c111 (C : Callee) (n : Nat) : Cd V2 := seqK (c111_0 C) (seqK (c111_1 C) (retK))
def r111 (v : V2) (S : AW) : R := (V2.casesOn v fun v0 v2 => some (v2, S))
def g111 (C : Callee) (n : Nat) (args : List Value) (S : AW) : R := c111 C n (V2.mk (argV args 0) (argV args 2)) S fun o v S => EX.casesOn o (r111 v S) (fun _ => none) (r111 v S)
/-! assayer/assayerref1.Shl -/
def c112_0 (C : Callee) : Cd V7 := fun v S κ => (V7.casesOn v fun v0 v1 v4 v5 v6 v19 v31 => 
  κ .normal (V7.mk v0 v1 (.slice none 0 0) v5 v6 v19 v31) S)
def c112_1 (C : Callee) : Cd V7 := fun v S κ => (V7.casesOn v fun v0 v1 v4 v5 v6 v19 v31 => 
  kLen false v0 S fun v32 S32 =>
  kO (mmV true [v1, (.int .i64 0)]) S32 fun v33 S33 =>
  kBin .quo v33 (.int .i64 32) S33 fun v34 S34 =>
  kBin .add v32 v34 S34 fun v35 S35 =>
  kBin .add v35 (.int .i64 1) S35 fun v36 S36 =>
  kMks 165 1 4 [.int .u32 0] v36 v36 S36 fun v37 S37 =>
  κ .normal (V7.mk v0 v1 v4 v37 v6 v19 v31) S37)
def c112_2 (C : Callee) : Cd V7 := fun v S κ => (V7.casesOn v fun v0 v1 v4 v5 v6 v19 v31 => 
  κ .normal (V7.mk v0 v1 v4 v5 (.int .i64 0) v19 v31) S)
def c112_3 (C : Callee) : Cd V7 := fun v S κ => (V7.casesOn v fun v0 v1 v4 v5 v6 v19 v31 => 
  kLen false v0 S fun v32 S32 =>
  kBin .mul (.int .i64 32) v32 S32 fun v33 S33 =>
  kBin .lss v6 v33 S33 fun v34 S34 =>
  κ .normal (V7.mk v0 v1 v4 v5 v6 v34 v31) S34)
def c112_4 : V7 → Value := fun v => (V7.casesOn v fun v0 v1 v4 v5 v6 v19 v31 => v19)
def c112_5 (C : Callee) : Cd V7 := fun v S κ => (V7.casesOn v fun v0 v1 v4 v5 v6 v19 v31 => 
  kCall C 126 [v0, v6] S fun v32 S32 =>
  kBin .eql v32 (.int .u64 1) S32 fun v33 S33 =>
  bl v33 fun b => cond b
   (kBin .add v6 v1 S33 fun v34 S34 =>
   kBin .geq v34 (.int .i64 0) S34 fun v35 S35 =>
   κ .normal (V7.mk v0 v1 v4 v5 v6 v19 v35) S35)
   (κ .normal (V7.mk v0 v1 v4 v5 v6 v19 (.bool false)) S33))
def c112_6 : V7 → Value := fun v => (V7.casesOn v fun v0 v1 v4 v5 v6 v19 v31 => v31)
def c112_7 (C : Callee) : Cd V7 := fun v S κ => (V7.casesOn v fun v0 v1 v4 v5 v6 v19 v31 => 
  kBin .add v6 v1 S fun v32 S32 =>
  kBin .quo v32 (.int .i64 32) S32 fun v33 S33 =>
  kBin .add v6 v1 S33 fun v34 S34 =>
  kBin .quo v34 (.int .i64 32) S34 fun v35 S35 =>
  kIad 1 v5 v35 S35 fun v36 S36 =>
  kLd none v36 S36 fun v37 S37 =>
  kBin .add v6 v1 S37 fun v38 S38 =>
  kBin .rem v38 (.int .i64 32) S38 fun v39 S39 =>
  kBin .shl (.int .u32 1) v39 S39 fun v40 S40 =>
  kBin .or v37 v40 S40 fun v41 S41 =>
  kIad 1 v5 v33 S41 fun v42 S42 =>
  kSt 1 v42 v41 S42 fun v43 S43 =>
  κ .normal (V7.mk v0 v1 v4 v5 v6 v19 v31) S43)
def c112_8 (C : Callee) : Cd V7 := fun v S κ => (V7.casesOn v fun v0 v1 v4 v5 v6 v19 v31 => 
  kBin .add v6 (.int .i64 1) S fun v32 S32 =>
  κ .normal (V7.mk v0 v1 v4 v5 v32 v19 v31) S32)
def c112_9 (C : Callee) (n : Nat) : Cd V7 := seqK (seqK (c112_3 C) (condK c112_4 (skipK) (exitK 0))) (seqK (blockK 1 (seqK (c112_5 C) (condK c112_6 (c112_7 C) (skipK)))) (c112_8 C))
def c112_10 (C : Callee) : Cd V7 := fun v S κ => (V7.casesOn v fun v0 v1 v4 v5 v6 v19 v31 => 
  kCall C 125 [v5] S fun v32 S32 =>
  κ .normal (V7.mk v0 v1 v32 v5 v6 v19 v31) S32)
/-- assayer/assayerref1.Shl -/
def c112 (C : Callee) (n : Nat) : Cd V7 := seqK (c112_0 C) (seqK (c112_1 C) (seqK (seqK (c112_2 C) (blockK 0 (loopK n (c112_9 C n)))) (seqK (c112_10 C) (retK))))
def r112 (v : V7) (S : AW) : R := (V7.casesOn v fun v0 v1 v4 v5 v6 v19 v31 => some (v4, S))
def g112 (C : Callee) (n : Nat) (args : List Value) (S : AW) : R := c112 C n (V7.mk (argV args 0) (argV args 1) (argV args 4) (argV args 5) (argV args 6) (argV args 19) (argV args 31)) S fun o v S => EX.casesOn o (r112 v S) (fun _ => none) (r112 v S)
/-! assayer/assayerref1.Bits -/
def c113_0 (C : Callee) : Cd V5 := fun v S κ => (V5.casesOn v fun v0 v2 v3 v4 v18 => 
  κ .normal (V5.mk v0 (.int .i64 0) v3 v4 v18) S)
def c113_1 (C : Callee) : Cd V5 := fun v S κ => (V5.casesOn v fun v0 v2 v3 v4 v18 => 
  kCall C 125 [v0] S fun v19 S19 =>
  κ .normal (V5.mk v0 v2 v19 v4 v18) S19)
def c113_2 (C : Callee) : Cd V5 := fun v S κ => (V5.casesOn v fun v0 v2 v3 v4 v18 => 
  kLen false v3 S fun v19 S19 =>
  kBin .mul (.int .i64 32) v19 S19 fun v20 S20 =>
  κ .normal (V5.mk v0 v2 v3 v20 v18) S20)
def c113_3 (C : Callee) : Cd V5 := fun v S κ => (V5.casesOn v fun v0 v2 v3 v4 v18 => 
  kBin .gtr v4 (.int .i64 0) S fun v19 S19 =>
  bl v19 fun b => cond b
   (kBin .sub v4 (.int .i64 1) S19 fun v20 S20 =>
   kCall C 126 [v3, v20] S20 fun v21 S21 =>
   kBin .eql v21 (.int .u64 0) S21 fun v22 S22 =>
   κ .normal (V5.mk v0 v2 v3 v4 v22) S22)
   (κ .normal (V5.mk v0 v2 v3 v4 (.bool false)) S19))
def c113_4 : V5 → Value := fun v => (V5.casesOn v fun v0 v2 v3 v4 v18 => v18)
def c113_5 (C : Callee) : Cd V5 := fun v S κ => (V5.casesOn v fun v0 v2 v3 v4 v18 => 
  kBin .sub v4 (.int .i64 1) S fun v19 S19 =>
  κ .normal (V5.mk v0 v2 v3 v19 v18) S19)
def c113_6 (C : Callee) (n : Nat) : Cd V5 := seqK (seqK (c113_3 C) (condK c113_4 (skipK) (exitK 0))) (blockK 1 (c113_5 C))
def c113_7 (C : Callee) : Cd V5 := fun v S κ => (V5.casesOn v fun v0 v2 v3 v4 v18 => 
  κ .normal (V5.mk v0 v4 v3 v4 v18) S)
/-- assayer/assayerref1.Bits -/
def c113 (C : Callee) (n : Nat) : Cd V5 := seqK (c113_0 C) (seqK (c113_1 C) (seqK (c113_2 C) (seqK (blockK 0 (loopK n (c113_6 C n))) (seqK (c113_7 C) (retK)))))
def r113 (v : V5) (S : AW) : R := (V5.casesOn v fun v0 v2 v3 v4 v18 => some (v2, S))
def g113 (C : Callee) (n : Nat) (args : List Value) (S : AW) : R := c113 C n (V5.mk (argV args 0) (argV args 2) (argV args 3) (argV args 4) (argV args 18)) S fun o v S => EX.casesOn o (r113 v S) (fun _ => none) (r113 v S)
/-! assayer/assayerref1.Mul -/
def c115_0 (C : Callee) : Cd V9 := fun v S κ => (V9.casesOn v fun v0 v1 v4 v5 v6 v7 v8 v19 v25 => 
  κ .normal (V9.mk v0 v1 (.slice none 0 0) v5 v6 v7 v8 v19 v25) S)
def c115_1 (C : Callee) : Cd V9 := fun v S κ => (V9.casesOn v fun v0 v1 v4 v5 v6 v7 v8 v19 v25 => 
  kLen false v0 S fun v26 S26 =>
  kLen false v1 S26 fun v27 S27 =>
  kBin .add v26 v27 S27 fun v28 S28 =>
  kBin .add v28 (.int .i64 1) S28 fun v29 S29 =>
  kMks 165 1 4 [.int .u32 0] v29 v29 S29 fun v30 S30 =>
  κ .normal (V9.mk v0 v1 v4 v30 v6 v7 v8 v19 v25) S30)
def c115_2 (C : Callee) : Cd V9 := fun v S κ => (V9.casesOn v fun v0 v1 v4 v5 v6 v7 v8 v19 v25 => 
  κ .normal (V9.mk v0 v1 v4 v5 (.int .i64 0) v7 v8 v19 v25) S)
def c115_3 (C : Callee) : Cd V9 := fun v S κ => (V9.casesOn v fun v0 v1 v4 v5 v6 v7 v8 v19 v25 => 
  kLen false v0 S fun v26 S26 =>
  kBin .lss v6 v26 S26 fun v27 S27 =>
  κ .normal (V9.mk v0 v1 v4 v5 v6 v7 v8 v27 v25) S27)
def c115_4 : V9 → Value := fun v => (V9.casesOn v fun v0 v1 v4 v5 v6 v7 v8 v19 v25 => v19)
def c115_5 (C : Callee) : Cd V9 := fun v S κ => (V9.casesOn v fun v0 v1 v4 v5 v6 v7 v8 v19 v25 => 
  κ .normal (V9.mk v0 v1 v4 v5 v6 (.int .u64 0) v8 v19 v25) S)
def c115_6 (C : Callee) : Cd V9 := fun v S κ => (V9.casesOn v fun v0 v1 v4 v5 v6 v7 v8 v19 v25 => 
  κ .normal (V9.mk v0 v1 v4 v5 v6 v7 (.int .i64 0) v19 v25) S)
def c115_7 (C : Callee) : Cd V9 := fun v S κ => (V9.casesOn v fun v0 v1 v4 v5 v6 v7 v8 v19 v25 => 
  kLen false v1 S fun v26 S26 =>
  kBin .lss v8 v26 S26 fun v27 S27 =>
  κ .normal (V9.mk v0 v1 v4 v5 v6 v7 v8 v19 v27) S27)
def c115_8 : V9 → Value := fun v => (V9.casesOn v fun v0 v1 v4 v5 v6 v7 v8 v19 v25 => v25)
def c115_9 (C : Callee) : Cd V9 := fun v S κ => (V9.casesOn v fun v0 v1 v4 v5 v6 v7 v8 v19 v25 => 
  kBin .add v6 v8 S fun v26 S26 =>
  kIad 1 v5 v26 S26 fun v27 S27 =>
  kLd none v27 S27 fun v28 S28 =>
  kCvI .u64 v28 S28 fun v29 S29 =>
  kBin .add v7 v29 S29 fun v30 S30 =>
  kIad 1 v0 v6 S30 fun v31 S31 =>
  kLd none v31 S31 fun v32 S32 =>
  kCvI .u64 v32 S32 fun v33 S33 =>
  kIad 1 v1 v8 S33 fun v34 S34 =>
  kLd none v34 S34 fun v35 S35 =>
  kCvI .u64 v35 S35 fun v36 S36 =>
  kBin .mul v33 v36 S36 fun v37 S37 =>
  kBin .add v30 v37 S37 fun v38 S38 =>
  κ .normal (V9.mk v0 v1 v4 v5 v6 v38 v8 v19 v25) S38)
def c115_10 (C : Callee) : Cd V9 := fun v S κ => (V9.casesOn v fun v0 v1 v4 v5 v6 v7 v8 v19 v25 => 
  kBin .add v6 v8 S fun v26 S26 =>
  kCvI .u32 v7 S26 fun v27 S27 =>
  kIad 1 v5 v26 S27 fun v28 S28 =>
  kSt 1 v28 v27 S28 fun v29 S29 =>
  κ .normal (V9.mk v0 v1 v4 v5 v6 v7 v8 v19 v25) S29)
def c115_11 (C : Callee) : Cd V9 := fun v S κ => (V9.casesOn v fun v0 v1 v4 v5 v6 v7 v8 v19 v25 => 
  kBin .shr v7 (.int .u64 32) S fun v26 S26 =>
  κ .normal (V9.mk v0 v1 v4 v5 v6 v26 v8 v19 v25) S26)
def c115_12 (C : Callee) : Cd V9 := fun v S κ => (V9.casesOn v fun v0 v1 v4 v5 v6 v7 v8 v19 v25 => 
  kBin .add v8 (.int .i64 1) S fun v26 S26 =>
  κ .normal (V9.mk v0 v1 v4 v5 v6 v7 v26 v19 v25) S26)
def c115_13 (C : Callee) (n : Nat) : Cd V9 := seqK (seqK (c115_7 C) (condK c115_8 (skipK) (exitK 2))) (seqK (blockK 3 (seqK (c115_9 C) (seqK (c115_10 C) (c115_11 C)))) (c115_12 C))
def c115_14 (C : Callee) : Cd V9 := fun v S κ => (V9.casesOn v fun v0 v1 v4 v5 v6 v7 v8 v19 v25 => 
  kLen false v1 S fun v26 S26 =>
  kBin .add v6 v26 S26 fun v27 S27 =>
  kCvI .u32 v7 S27 fun v28 S28 =>
  kIad 1 v5 v27 S28 fun v29 S29 =>
  kSt 1 v29 v28 S29 fun v30 S30 =>
  κ .normal (V9.mk v0 v1 v4 v5 v6 v7 v8 v19 v25) S30)
def c115_15 (C : Callee) : Cd V9 := fun v S κ => (V9.casesOn v fun v0 v1 v4 v5 v6 v7 v8 v19 v25 => 
  kBin .add v6 (.int .i64 1) S fun v26 S26 =>
  κ .normal (V9.mk v0 v1 v4 v5 v26 v7 v8 v19 v25) S26)
def c115_16 (C : Callee) (n : Nat) : Cd V9 := seqK (seqK (c115_3 C) (condK c115_4 (skipK) (exitK 0))) (seqK (blockK 1 (seqK (c115_5 C) (seqK (seqK (c115_6 C) (blockK 2 (loopK n (c115_13 C n)))) (c115_14 C)))) (c115_15 C))
def c115_17 (C : Callee) : Cd V9 := fun v S κ => (V9.casesOn v fun v0 v1 v4 v5 v6 v7 v8 v19 v25 => 
  kCall C 125 [v5] S fun v26 S26 =>
  κ .normal (V9.mk v0 v1 v26 v5 v6 v7 v8 v19 v25) S26)
/-- assayer/assayerref1.Mul -/
def c115 (C : Callee) (n : Nat) : Cd V9 := seqK (c115_0 C) (seqK (c115_1 C) (seqK (seqK (c115_2 C) (blockK 0 (loopK n (c115_16 C n)))) (seqK (c115_17 C) (retK))))
def r115 (v : V9) (S : AW) : R := (V9.casesOn v fun v0 v1 v4 v5 v6 v7 v8 v19 v25 => some (v4, S))
def g115 (C : Callee) (n : Nat) (args : List Value) (S : AW) : R := c115 C n (V9.mk (argV args 0) (argV args 1) (argV args 4) (argV args 5) (argV args 6) (argV args 7) (argV args 8) (argV args 19) (argV args 25)) S fun o v S => EX.casesOn o (r115 v S) (fun _ => none) (r115 v S)
/-! assayer/assayerref1.Ten -/
def c116_0 (C : Callee) : Cd V6 := fun v S κ => (V6.casesOn v fun v0 v2 v3 v4 v7 v10 => 
  κ .normal (V6.mk v0 (.slice none 0 0) v3 v4 v7 v10) S)
def c116_1 (C : Callee) : Cd V6 := fun v S κ => (V6.casesOn v fun v0 v2 v3 v4 v7 v10 => 
  kLit 165 1 [.int .u32 0] 1 [(0, 1, (.int .u32 1))] S fun v11 S11 =>
  κ .normal (V6.mk v0 v2 v11 v4 v7 v10) S11)
def c116_2 (C : Callee) : Cd V6 := fun v S κ => (V6.casesOn v fun v0 v2 v3 v4 v7 v10 => 
  kBin .lss v0 (.int .i64 0) S fun v11 S11 =>
  κ .normal (V6.mk v0 v2 v3 v4 v11 v10) S11)
def c116_3 : V6 → Value := fun v => (V6.casesOn v fun v0 v2 v3 v4 v7 v10 => v7)
def c116_4 (C : Callee) : Cd V6 := fun v S κ => (V6.casesOn v fun v0 v2 v3 v4 v7 v10 => 
  κ .normal (V6.mk v0 (.slice none 0 0) v3 v4 v7 v10) S)
def c116_5 (C : Callee) : Cd V6 := fun v S κ => (V6.casesOn v fun v0 v2 v3 v4 v7 v10 => 
  κ .normal (V6.mk v0 v2 v3 (.int .i64 0) v7 v10) S)
def c116_6 (C : Callee) : Cd V6 := fun v S κ => (V6.casesOn v fun v0 v2 v3 v4 v7 v10 => 
  kBin .lss v4 v0 S fun v11 S11 =>
  κ .normal (V6.mk v0 v2 v3 v4 v7 v11) S11)
def c116_7 : V6 → Value := fun v => (V6.casesOn v fun v0 v2 v3 v4 v7 v10 => v10)
def c116_8 (C : Callee) : Cd V6 := fun v S κ => (V6.casesOn v fun v0 v2 v3 v4 v7 v10 => 
  kLit 165 1 [.int .u32 0] 1 [(0, 1, (.int .u32 10))] S fun v11 S11 =>
  kCall C 115 [v3, v11] S11 fun v12 S12 =>
  κ .normal (V6.mk v0 v2 v12 v4 v7 v10) S12)
def c116_9 (C : Callee) : Cd V6 := fun v S κ => (V6.casesOn v fun v0 v2 v3 v4 v7 v10 => 
  kBin .add v4 (.int .i64 1) S fun v11 S11 =>
  κ .normal (V6.mk v0 v2 v3 v11 v7 v10) S11)
def c116_10 (C : Callee) (n : Nat) : Cd V6 := seqK (seqK (c116_6 C) (condK c116_7 (skipK) (exitK 0))) (seqK (blockK 1 (c116_8 C)) (c116_9 C))
def c116_11 (C : Callee) : Cd V6 := fun v S κ => (V6.casesOn v fun v0 v2 v3 v4 v7 v10 => 
  κ .normal (V6.mk v0 v3 v3 v4 v7 v10) S)
/-- assayer/assayerref1.Ten -/
def c116 (C : Callee) (n : Nat) : Cd V6 := seqK (c116_0 C) (seqK (c116_1 C) (seqK (seqK (c116_2 C) (condK c116_3 (seqK (c116_4 C) (retK)) (skipK))) (seqK (seqK (c116_5 C) (blockK 0 (loopK n (c116_10 C n)))) (seqK (c116_11 C) (retK)))))
def r116 (v : V6) (S : AW) : R := (V6.casesOn v fun v0 v2 v3 v4 v7 v10 => some (v2, S))
def g116 (C : Callee) (n : Nat) (args : List Value) (S : AW) : R := c116 C n (V6.mk (argV args 0) (argV args 2) (argV args 3) (argV args 4) (argV args 7) (argV args 10)) S fun o v S => EX.casesOn o (r116 v S) (fun _ => none) (r116 v S)
/-! assayer/assayerref1.Div -/
def c117_0 (C : Callee) : Cd V13 := fun v S κ => (V13.casesOn v fun v0 v1 v4 v5 v6 v7 v8 v9 v10 v11 v15 v25 v42 => 
  κ .normal (V13.mk v0 v1 (.slice none 0 0) (.slice none 0 0) (.bool false) v7 v8 v9 v10 v11 v15 v25 v42) S)
def c117_1 (C : Callee) : Cd V13 := fun v S κ => (V13.casesOn v fun v0 v1 v4 v5 v6 v7 v8 v9 v10 v11 v15 v25 v42 => 
  kCall C 125 [v1] S fun v43 S43 =>
  kLen false v43 S43 fun v44 S44 =>
  kBin .eql v44 (.int .i64 0) S44 fun v45 S45 =>
  κ .normal (V13.mk v0 v1 v4 v5 v6 v7 v8 v9 v10 v11 v45 v25 v42) S45)
def c117_2 : V13 → Value := fun v => (V13.casesOn v fun v0 v1 v4 v5 v6 v7 v8 v9 v10 v11 v15 v25 v42 => v15)
def c117_3 (C : Callee) : Cd V13 := fun v S κ => (V13.casesOn v fun v0 v1 v4 v5 v6 v7 v8 v9 v10 v11 v15 v25 v42 => 
  κ .normal (V13.mk v0 v1 (.slice none 0 0) (.slice none 0 0) (.bool false) v7 v8 v9 v10 v11 v15 v25 v42) S)
def c117_4 (C : Callee) : Cd V13 := fun v S κ => (V13.casesOn v fun v0 v1 v4 v5 v6 v7 v8 v9 v10 v11 v15 v25 v42 => 
  kLen false v0 S fun v43 S43 =>
  kBin .add v43 (.int .i64 1) S43 fun v44 S44 =>
  kMks 165 1 4 [.int .u32 0] v44 v44 S44 fun v45 S45 =>
  κ .normal (V13.mk v0 v1 v4 v5 v6 v45 v8 v9 v10 v11 v15 v25 v42) S45)
def c117_5 (C : Callee) : Cd V13 := fun v S κ => (V13.casesOn v fun v0 v1 v4 v5 v6 v7 v8 v9 v10 v11 v15 v25 v42 => 
  κ .normal (V13.mk v0 v1 v4 v5 v6 v7 (.slice none 0 0) v9 v10 v11 v15 v25 v42) S)
def c117_6 (C : Callee) : Cd V13 := fun v S κ => (V13.casesOn v fun v0 v1 v4 v5 v6 v7 v8 v9 v10 v11 v15 v25 v42 => 
  kLen false v0 S fun v43 S43 =>
  kBin .mul (.int .i64 32) v43 S43 fun v44 S44 =>
  kBin .sub v44 (.int .i64 1) S44 fun v45 S45 =>
  κ .normal (V13.mk v0 v1 v4 v5 v6 v7 v8 v45 v10 v11 v15 v25 v42) S45)
def c117_7 (C : Callee) : Cd V13 := fun v S κ => (V13.casesOn v fun v0 v1 v4 v5 v6 v7 v8 v9 v10 v11 v15 v25 v42 => 
  kBin .geq v9 (.int .i64 0) S fun v43 S43 =>
  κ .normal (V13.mk v0 v1 v4 v5 v6 v7 v8 v9 v10 v11 v15 v43 v42) S43)
def c117_8 : V13 → Value := fun v => (V13.casesOn v fun v0 v1 v4 v5 v6 v7 v8 v9 v10 v11 v15 v25 v42 => v25)
def c117_9 (C : Callee) : Cd V13 := fun v S κ => (V13.casesOn v fun v0 v1 v4 v5 v6 v7 v8 v9 v10 v11 v15 v25 v42 => 
  kCall C 119 [v8, v8] S fun v43 S43 =>
  kCall C 126 [v0, v9] S43 fun v44 S44 =>
  kCall C 111 [v44] S44 fun v45 S45 =>
  kCall C 119 [v43, v45] S45 fun v46 S46 =>
  κ .normal (V13.mk v0 v1 v4 v5 v6 v7 v46 v9 v10 v11 v15 v25 v42) S46)
def c117_10 (C : Callee) : Cd V13 := fun v S κ => (V13.casesOn v fun v0 v1 v4 v5 v6 v7 v8 v9 v10 v11 v15 v25 v42 => 
  kCall C 127 [v8, v1] S fun v43 S43 =>
  kExt 0 v43 S43 fun v44 S44 =>
  kExt 1 v43 S44 fun v45 S45 =>
  κ .normal (V13.mk v0 v1 v4 v5 v6 v7 v8 v9 v44 v45 v15 v25 v42) S45)
def c117_11 (C : Callee) : Cd V13 := fun v S κ => (V13.casesOn v fun v0 v1 v4 v5 v6 v7 v8 v9 v10 v11 v15 v25 v42 => 
  κ .normal (V13.mk v0 v1 v4 v5 v6 v7 v8 v9 v10 v11 v15 v25 v11) S)
def c117_12 : V13 → Value := fun v => (V13.casesOn v fun v0 v1 v4 v5 v6 v7 v8 v9 v10 v11 v15 v25 v42 => v42)
def c117_13 (C : Callee) : Cd V13 := fun v S κ => (V13.casesOn v fun v0 v1 v4 v5 v6 v7 v8 v9 v10 v11 v15 v25 v42 => 
  κ .normal (V13.mk v0 v1 v4 v5 v6 v7 v10 v9 v10 v11 v15 v25 v42) S)
def c117_14 (C : Callee) : Cd V13 := fun v S κ => (V13.casesOn v fun v0 v1 v4 v5 v6 v7 v8 v9 v10 v11 v15 v25 v42 => 
  kBin .quo v9 (.int .i64 32) S fun v43 S43 =>
  kBin .quo v9 (.int .i64 32) S43 fun v44 S44 =>
  kIad 1 v7 v44 S44 fun v45 S45 =>
  kLd none v45 S45 fun v46 S46 =>
  kBin .rem v9 (.int .i64 32) S46 fun v47 S47 =>
  kBin .shl (.int .u32 1) v47 S47 fun v48 S48 =>
  kBin .or v46 v48 S48 fun v49 S49 =>
  kIad 1 v7 v43 S49 fun v50 S50 =>
  kSt 1 v50 v49 S50 fun v51 S51 =>
  κ .normal (V13.mk v0 v1 v4 v5 v6 v7 v8 v9 v10 v11 v15 v25 v42) S51)
def c117_15 (C : Callee) : Cd V13 := fun v S κ => (V13.casesOn v fun v0 v1 v4 v5 v6 v7 v8 v9 v10 v11 v15 v25 v42 => 
  kBin .sub v9 (.int .i64 1) S fun v43 S43 =>
  κ .normal (V13.mk v0 v1 v4 v5 v6 v7 v8 v43 v10 v11 v15 v25 v42) S43)
def c117_16 (C : Callee) (n : Nat) : Cd V13 := seqK (seqK (c117_7 C) (condK c117_8 (skipK) (exitK 0))) (seqK (blockK 1 (seqK (c117_9 C) (seqK (c117_10 C) (seqK (c117_11 C) (condK c117_12 (seqK (c117_13 C) (c117_14 C)) (skipK)))))) (c117_15 C))
def c117_17 (C : Callee) : Cd V13 := fun v S κ => (V13.casesOn v fun v0 v1 v4 v5 v6 v7 v8 v9 v10 v11 v15 v25 v42 => 
  kCall C 125 [v7] S fun v43 S43 =>
  κ .normal (V13.mk v0 v1 v43 v8 (.bool true) v7 v8 v9 v10 v11 v15 v25 v42) S43)
/-- assayer/assayerref1.Div -/
def c117 (C : Callee) (n : Nat) : Cd V13 := seqK (c117_0 C) (seqK (seqK (c117_1 C) (condK c117_2 (seqK (c117_3 C) (retK)) (skipK))) (seqK (c117_4 C) (seqK (c117_5 C) (seqK (seqK (c117_6 C) (blockK 0 (loopK n (c117_16 C n)))) (seqK (c117_17 C) (retK))))))
def r117 (v : V13) (S : AW) : R := (V13.casesOn v fun v0 v1 v4 v5 v6 v7 v8 v9 v10 v11 v15 v25 v42 => some (.tuple #[v4, v5, v6], S))
def g117 (C : Callee) (n : Nat) (args : List Value) (S : AW) : R := c117 C n (V13.mk (argV args 0) (argV args 1) (argV args 4) (argV args 5) (argV args 6) (argV args 7) (argV args 8) (argV args 9) (argV args 10) (argV args 11) (argV args 15) (argV args 25) (argV args 42)) S fun o v S => EX.casesOn o (r117 v S) (fun _ => none) (r117 v S)
/-! assayer/assayerref1.Cmp -/
def c118_0 (C : Callee) : Cd V7 := fun v S κ => (V7.casesOn v fun v0 v1 v4 v5 v13 v22 v29 => 
  κ .normal (V7.mk v0 v1 (.int .i64 0) v5 v13 v22 v29) S)
def c118_1 (C : Callee) : Cd V7 := fun v S κ => (V7.casesOn v fun v0 v1 v4 v5 v13 v22 v29 => 
  kLen false v0 S fun v30 S30 =>
  kLen false v1 S30 fun v31 S31 =>
  kO (mmV true [v30, v31]) S31 fun v32 S32 =>
  kBin .sub v32 (.int .i64 1) S32 fun v33 S33 =>
  κ .normal (V7.mk v0 v1 v4 v33 v13 v22 v29) S33)
def c118_2 (C : Callee) : Cd V7 := fun v S κ => (V7.casesOn v fun v0 v1 v4 v5 v13 v22 v29 => 
  kBin .geq v5 (.int .i64 0) S fun v30 S30 =>
  κ .normal (V7.mk v0 v1 v4 v5 v30 v22 v29) S30)
def c118_3 : V7 → Value := fun v => (V7.casesOn v fun v0 v1 v4 v5 v13 v22 v29 => v13)
def c118_4 (C : Callee) : Cd V7 := fun v S κ => (V7.casesOn v fun v0 v1 v4 v5 v13 v22 v29 => 
  kCall C 128 [v0, v5] S fun v30 S30 =>
  kCall C 128 [v1, v5] S30 fun v31 S31 =>
  kBin .lss v30 v31 S31 fun v32 S32 =>
  κ .normal (V7.mk v0 v1 v4 v5 v13 v32 v29) S32)
def c118_5 : V7 → Value := fun v => (V7.casesOn v fun v0 v1 v4 v5 v13 v22 v29 => v22)
def c118_6 (C : Callee) : Cd V7 := fun v S κ => (V7.casesOn v fun v0 v1 v4 v5 v13 v22 v29 => 
  κ .normal (V7.mk v0 v1 (.int .i64 (-1)) v5 v13 v22 v29) S)
def c118_7 (C : Callee) : Cd V7 := fun v S κ => (V7.casesOn v fun v0 v1 v4 v5 v13 v22 v29 => 
  kCall C 128 [v0, v5] S fun v30 S30 =>
  kCall C 128 [v1, v5] S30 fun v31 S31 =>
  kBin .gtr v30 v31 S31 fun v32 S32 =>
  κ .normal (V7.mk v0 v1 v4 v5 v13 v22 v32) S32)
def c118_8 : V7 → Value := fun v => (V7.casesOn v fun v0 v1 v4 v5 v13 v22 v29 => v29)
def c118_9 (C : Callee) : Cd V7 := fun v S κ => (V7.casesOn v fun v0 v1 v4 v5 v13 v22 v29 => 
  κ .normal (V7.mk v0 v1 (.int .i64 1) v5 v13 v22 v29) S)
def c118_10 (C : Callee) : Cd V7 := fun v S κ => (V7.casesOn v fun v0 v1 v4 v5 v13 v22 v29 => 
  kBin .sub v5 (.int .i64 1) S fun v30 S30 =>
  κ .normal (V7.mk v0 v1 v4 v30 v13 v22 v29) S30)
def c118_11 (C : Callee) (n : Nat) : Cd V7 := seqK (seqK (c118_2 C) (condK c118_3 (skipK) (exitK 0))) (seqK (blockK 1 (seqK (seqK (c118_4 C) (condK c118_5 (seqK (c118_6 C) (retK)) (skipK))) (seqK (c118_7 C) (condK c118_8 (seqK (c118_9 C) (retK)) (skipK))))) (c118_10 C))
def c118_12 (C : Callee) : Cd V7 := fun v S κ => (V7.casesOn v fun v0 v1 v4 v5 v13 v22 v29 => 
  κ .normal (V7.mk v0 v1 (.int .i64 0) v5 v13 v22 v29) S)
/-- assayer/assayerref1.Cmp -/
def c118 (C : Callee) (n : Nat) : Cd V7 := seqK (c118_0 C) (seqK (seqK (c118_1 C) (blockK 0 (loopK n (c118_11 C n)))) (seqK (c118_12 C) (retK)))
def r118 (v : V7) (S : AW) : R := (V7.casesOn v fun v0 v1 v4 v5 v13 v22 v29 => some (v4, S))
def g118 (C : Callee) (n : Nat) (args : List Value) (S : AW) : R := c118 C n (V7.mk (argV args 0) (argV args 1) (argV args 4) (argV args 5) (argV args 13) (argV args 22) (argV args 29)) S fun o v S => EX.casesOn o (r118 v S) (fun _ => none) (r118 v S)
/-! assayer/assayerref1.Add -/
def c119_0 (C : Callee) : Cd V7 := fun v S κ => (V7.casesOn v fun v0 v1 v4 v5 v6 v7 v21 => 
  κ .normal (V7.mk v0 v1 (.slice none 0 0) v5 v6 v7 v21) S)
def c119_1 (C : Callee) : Cd V7 := fun v S κ => (V7.casesOn v fun v0 v1 v4 v5 v6 v7 v21 => 
  κ .normal (V7.mk v0 v1 v4 (.slice none 0 0) v6 v7 v21) S)
def c119_2 (C : Callee) : Cd V7 := fun v S κ => (V7.casesOn v fun v0 v1 v4 v5 v6 v7 v21 => 
  κ .normal (V7.mk v0 v1 v4 v5 (.int .u64 0) v7 v21) S)
def c119_3 (C : Callee) : Cd V7 := fun v S κ => (V7.casesOn v fun v0 v1 v4 v5 v6 v7 v21 => 
  κ .normal (V7.mk v0 v1 v4 v5 v6 (.int .i64 0) v21) S)
def c119_4 (C : Callee) : Cd V7 := fun v S κ => (V7.casesOn v fun v0 v1 v4 v5 v6 v7 v21 => 
  kLen false v0 S fun v22 S22 =>
  kBin .lss v7 v22 S22 fun v23 S23 =>
  bl v23 fun b => cond b
   (κ .normal (V7.mk v0 v1 v4 v5 v6 v7 (.bool true)) S23)
   (kLen false v1 S23 fun v24 S24 =>
   kBin .lss v7 v24 S24 fun v25 S25 =>
   bl v25 fun b => cond b
    (κ .normal (V7.mk v0 v1 v4 v5 v6 v7 (.bool true)) S25)
    (kBin .gtr v6 (.int .u64 0) S25 fun v26 S26 =>
    κ .normal (V7.mk v0 v1 v4 v5 v6 v7 v26) S26)))
def c119_5 : V7 → Value := fun v => (V7.casesOn v fun v0 v1 v4 v5 v6 v7 v21 => v21)
def c119_6 (C : Callee) : Cd V7 := fun v S κ => (V7.casesOn v fun v0 v1 v4 v5 v6 v7 v21 => 
  kCall C 128 [v0, v7] S fun v22 S22 =>
  kBin .add v6 v22 S22 fun v23 S23 =>
  kCall C 128 [v1, v7] S23 fun v24 S24 =>
  kBin .add v23 v24 S24 fun v25 S25 =>
  κ .normal (V7.mk v0 v1 v4 v5 v25 v7 v21) S25)
def c119_7 (C : Callee) : Cd V7 := fun v S κ => (V7.casesOn v fun v0 v1 v4 v5 v6 v7 v21 => 
  kCvI .u32 v6 S fun v22 S22 =>
  kLit 165 1 [.int .u32 0] 1 [(0, 1, v22)] S22 fun v23 S23 =>
  kApp 165 1 4 v5 v23 S23 fun v24 S24 =>
  κ .normal (V7.mk v0 v1 v4 v24 v6 v7 v21) S24)
def c119_8 (C : Callee) : Cd V7 := fun v S κ => (V7.casesOn v fun v0 v1 v4 v5 v6 v7 v21 => 
  kBin .shr v6 (.int .u64 32) S fun v22 S22 =>
  κ .normal (V7.mk v0 v1 v4 v5 v22 v7 v21) S22)
def c119_9 (C : Callee) : Cd V7 := fun v S κ => (V7.casesOn v fun v0 v1 v4 v5 v6 v7 v21 => 
  kBin .add v7 (.int .i64 1) S fun v22 S22 =>
  κ .normal (V7.mk v0 v1 v4 v5 v6 v22 v21) S22)
def c119_10 (C : Callee) (n : Nat) : Cd V7 := seqK (seqK (c119_4 C) (condK c119_5 (skipK) (exitK 0))) (seqK (blockK 1 (seqK (c119_6 C) (seqK (c119_7 C) (c119_8 C)))) (c119_9 C))
def c119_11 (C : Callee) : Cd V7 := fun v S κ => (V7.casesOn v fun v0 v1 v4 v5 v6 v7 v21 => 
  kCall C 125 [v5] S fun v22 S22 =>
  κ .normal (V7.mk v0 v1 v22 v5 v6 v7 v21) S22)
/-- assayer/assayerref1.Add -/
def c119 (C : Callee) (n : Nat) : Cd V7 := seqK (c119_0 C) (seqK (c119_1 C) (seqK (c119_2 C) (seqK (seqK (c119_3 C) (blockK 0 (loopK n (c119_10 C n)))) (seqK (c119_11 C) (retK)))))
def r119 (v : V7) (S : AW) : R := (V7.casesOn v fun v0 v1 v4 v5 v6 v7 v21 => some (v4, S))
def g119 (C : Callee) (n : Nat) (args : List Value) (S : AW) : R := c119 C n (V7.mk (argV args 0) (argV args 1) (argV args 4) (argV args 5) (argV args 6) (argV args 7) (argV args 21)) S fun o v S => EX.casesOn o (r119 v S) (fun _ => none) (r119 v S)
/-! assayer/assayerref1.Low -/
def c120_0 (C : Callee) : Cd V2 := fun v S κ => (V2.casesOn v fun v0 v2 => 
  κ .normal (V2.mk v0 (.int .u64 0)) S)
def c120_1 (C : Callee) : Cd V2 := fun v S κ => (V2.casesOn v fun v0 v2 => 
  kCall C 128 [v0, (.int .i64 0)] S fun v3 S3 =>
  kCall C 128 [v0, (.int .i64 1)] S3 fun v4 S4 =>
  kBin .shl v4 (.int .u64 32) S4 fun v5 S5 =>
  kBin .or v3 v5 S5 fun v6 S6 =>
  κ .normal (V2.mk v0 v6) S6)
/-- assayer/assayerref1.Low -/
def c120 (C : Callee) (n : Nat) : Cd V2 := seqK (c120_0 C) (seqK (c120_1 C) (retK))
def r120 (v : V2) (S : AW) : R := (V2.casesOn v fun v0 v2 => some (v2, S))
def g120 (C : Callee) (n : Nat) (args : List Value) (S : AW) : R := c120 C n (V2.mk (argV args 0) (argV args 2)) S fun o v S => EX.casesOn o (r120 v S) (fun _ => none) (r120 v S)
/-! internal/bytealg.hashStr[string] -/
def c122_0 (C : Callee) : Cd V11 := fun v S κ => (V11.casesOn v fun v0 v2 v3 v4 v5 v6 v7 v8 v12 v25 v30 => 
  κ .normal (V11.mk v0 (.int .u32 0) (.int .u32 0) v4 v5 v6 v7 v8 v12 v25 v30) S)
def c122_1 (C : Callee) : Cd V11 := fun v S κ => (V11.casesOn v fun v0 v2 v3 v4 v5 v6 v7 v8 v12 v25 v30 => 
  κ .normal (V11.mk v0 v2 v3 (.int .u32 0) v5 v6 v7 v8 v12 v25 v30) S)
def c122_2 (C : Callee) : Cd V11 := fun v S κ => (V11.casesOn v fun v0 v2 v3 v4 v5 v6 v7 v8 v12 v25 v30 => 
  κ .normal (V11.mk v0 v2 v3 v4 (.int .i64 0) v6 v7 v8 v12 v25 v30) S)
def c122_3 (C : Callee) : Cd V11 := fun v S κ => (V11.casesOn v fun v0 v2 v3 v4 v5 v6 v7 v8 v12 v25 v30 => 
  kLen true v0 S fun v31 S31 =>
  kBin .lss v5 v31 S31 fun v32 S32 =>
  κ .normal (V11.mk v0 v2 v3 v4 v5 v6 v7 v8 v32 v25 v30) S32)
def c122_4 : V11 → Value := fun v => (V11.casesOn v fun v0 v2 v3 v4 v5 v6 v7 v8 v12 v25 v30 => v12)
def c122_5 (C : Callee) : Cd V11 := fun v S κ => (V11.casesOn v fun v0 v2 v3 v4 v5 v6 v7 v8 v12 v25 v30 => 
  kBin .mul v4 (.int .u32 16777619) S fun v31 S31 =>
  kIdxS v0 v5 S31 fun v32 S32 =>
  kCvI .u32 v32 S32 fun v33 S33 =>
  kBin .add v31 v33 S33 fun v34 S34 =>
  κ .normal (V11.mk v0 v2 v3 v34 v5 v6 v7 v8 v12 v25 v30) S34)
def c122_6 (C : Callee) : Cd V11 := fun v S κ => (V11.casesOn v fun v0 v2 v3 v4 v5 v6 v7 v8 v12 v25 v30 => 
  kBin .add v5 (.int .i64 1) S fun v31 S31 =>
  κ .normal (V11.mk v0 v2 v3 v4 v31 v6 v7 v8 v12 v25 v30) S31)
def c122_7 (C : Callee) (n : Nat) : Cd V11 := seqK (seqK (c122_3 C) (condK c122_4 (skipK) (exitK 0))) (seqK (blockK 1 (c122_5 C)) (c122_6 C))
def c122_8 (C : Callee) : Cd V11 := fun v S κ => (V11.casesOn v fun v0 v2 v3 v4 v5 v6 v7 v8 v12 v25 v30 => 
  κ .normal (V11.mk v0 v2 v3 v4 v5 (.int .u32 1) (.int .u32 16777619) v8 v12 v25 v30) S)
def c122_9 (C : Callee) : Cd V11 := fun v S κ => (V11.casesOn v fun v0 v2 v3 v4 v5 v6 v7 v8 v12 v25 v30 => 
  kLen true v0 S fun v31 S31 =>
  κ .normal (V11.mk v0 v2 v3 v4 v5 v6 v7 v31 v12 v25 v30) S31)
def c122_10 (C : Callee) : Cd V11 := fun v S κ => (V11.casesOn v fun v0 v2 v3 v4 v5 v6 v7 v8 v12 v25 v30 => 
  kBin .gtr v8 (.int .i64 0) S fun v31 S31 =>
  κ .normal (V11.mk v0 v2 v3 v4 v5 v6 v7 v8 v12 v31 v30) S31)
def c122_11 : V11 → Value := fun v => (V11.casesOn v fun v0 v2 v3 v4 v5 v6 v7 v8 v12 v25 v30 => v25)
def c122_12 (C : Callee) : Cd V11 := fun v S κ => (V11.casesOn v fun v0 v2 v3 v4 v5 v6 v7 v8 v12 v25 v30 => 
  kBin .and v8 (.int .i64 1) S fun v31 S31 =>
  kBin .neq v31 (.int .i64 0) S31 fun v32 S32 =>
  κ .normal (V11.mk v0 v2 v3 v4 v5 v6 v7 v8 v12 v25 v32) S32)
def c122_13 : V11 → Value := fun v => (V11.casesOn v fun v0 v2 v3 v4 v5 v6 v7 v8 v12 v25 v30 => v30)
def c122_14 (C : Callee) : Cd V11 := fun v S κ => (V11.casesOn v fun v0 v2 v3 v4 v5 v6 v7 v8 v12 v25 v30 => 
  kBin .mul v6 v7 S fun v31 S31 =>
  κ .normal (V11.mk v0 v2 v3 v4 v5 v31 v7 v8 v12 v25 v30) S31)
def c122_15 (C : Callee) : Cd V11 := fun v S κ => (V11.casesOn v fun v0 v2 v3 v4 v5 v6 v7 v8 v12 v25 v30 => 
  kBin .mul v7 v7 S fun v31 S31 =>
  κ .normal (V11.mk v0 v2 v3 v4 v5 v6 v31 v8 v12 v25 v30) S31)
def c122_16 (C : Callee) : Cd V11 := fun v S κ => (V11.casesOn v fun v0 v2 v3 v4 v5 v6 v7 v8 v12 v25 v30 => 
  kBin .shr v8 (.int .u64 1) S fun v31 S31 =>
  κ .normal (V11.mk v0 v2 v3 v4 v5 v6 v7 v31 v12 v25 v30) S31)
def c122_17 (C : Callee) (n : Nat) : Cd V11 := seqK (seqK (c122_10 C) (condK c122_11 (skipK) (exitK 2))) (seqK (blockK 3 (seqK (seqK (c122_12 C) (condK c122_13 (c122_14 C) (skipK))) (c122_15 C))) (c122_16 C))
def c122_18 (C : Callee) : Cd V11 := fun v S κ => (V11.casesOn v fun v0 v2 v3 v4 v5 v6 v7 v8 v12 v25 v30 => 
  κ .normal (V11.mk v0 v4 v6 v4 v5 v6 v7 v8 v12 v25 v30) S)
/-- internal/bytealg.hashStr[string] -/
def c122 (C : Callee) (n : Nat) : Cd V11 := seqK (c122_0 C) (seqK (c122_1 C) (seqK (seqK (c122_2 C) (blockK 0 (loopK n (c122_7 C n)))) (seqK (c122_8 C) (seqK (seqK (c122_9 C) (blockK 2 (loopK n (c122_17 C n)))) (seqK (c122_18 C) (retK))))))
def r122 (v : V11) (S : AW) : R := (V11.casesOn v fun v0 v2 v3 v4 v5 v6 v7 v8 v12 v25 v30 => some (.tuple #[v2, v3], S))
def g122 (C : Callee) (n : Nat) (args : List Value) (S : AW) : R := c122 C n (V11.mk (argV args 0) (argV args 2) (argV args 3) (argV args 4) (argV args 5) (argV args 6) (argV args 7) (argV args 8) (argV args 12) (argV args 25) (argV args 30)) S fun o v S => EX.casesOn o (r122 v S) (fun _ => none) (r122 v S)
/-! assayer/assayerref1.exponent -/
def c123_0 (C : Callee) : Cd V14 := fun v S κ => (V14.casesOn v fun v0 v2 v3 v4 v5 v6 v7 v10 v18 v33 v41 v45 v57 v67 => 
  κ .normal (V14.mk v0 (.int .i64 0) (.bool false) (.int .i64 0) v5 v6 v7 v10 v18 v33 v41 v45 v57 v67) S)
def c123_1 (C : Callee) : Cd V14 := fun v S κ => (V14.casesOn v fun v0 v2 v3 v4 v5 v6 v7 v10 v18 v33 v41 v45 v57 v67 => 
  kLen true v0 S fun v68 S68 =>
  kBin .eql v68 (.int .i64 0) S68 fun v69 S69 =>
  κ .normal (V14.mk v0 v2 v3 v4 v5 v6 v7 v69 v18 v33 v41 v45 v57 v67) S69)
def c123_2 : V14 → Value := fun v => (V14.casesOn v fun v0 v2 v3 v4 v5 v6 v7 v10 v18 v33 v41 v45 v57 v67 => v10)
def c123_3 (C : Callee) : Cd V14 := fun v S κ => (V14.casesOn v fun v0 v2 v3 v4 v5 v6 v7 v10 v18 v33 v41 v45 v57 v67 => 
  κ .normal (V14.mk v0 (.int .i64 0) (.bool false) (.int .i64 0) v5 v6 v7 v10 v18 v33 v41 v45 v57 v67) S)
def c123_4 (C : Callee) : Cd V14 := fun v S κ => (V14.casesOn v fun v0 v2 v3 v4 v5 v6 v7 v10 v18 v33 v41 v45 v57 v67 => 
  kIdxS v0 (.int .i64 0) S fun v68 S68 =>
  kBin .neq v68 (.int .u8 101) S68 fun v69 S69 =>
  bl v69 fun b => cond b
   (kIdxS v0 (.int .i64 0) S69 fun v70 S70 =>
   kBin .neq v70 (.int .u8 69) S70 fun v71 S71 =>
   κ .normal (V14.mk v0 v2 v3 v4 v5 v6 v7 v10 v71 v33 v41 v45 v57 v67) S71)
   (κ .normal (V14.mk v0 v2 v3 v4 v5 v6 v7 v10 (.bool false) v33 v41 v45 v57 v67) S69))
def c123_5 : V14 → Value := fun v => (V14.casesOn v fun v0 v2 v3 v4 v5 v6 v7 v10 v18 v33 v41 v45 v57 v67 => v18)
def c123_6 (C : Callee) : Cd V14 := fun v S κ => (V14.casesOn v fun v0 v2 v3 v4 v5 v6 v7 v10 v18 v33 v41 v45 v57 v67 => 
  κ .normal (V14.mk v0 (.int .i64 0) (.bool false) (.int .i64 2) v5 v6 v7 v10 v18 v33 v41 v45 v57 v67) S)
def c123_7 (C : Callee) : Cd V14 := fun v S κ => (V14.casesOn v fun v0 v2 v3 v4 v5 v6 v7 v10 v18 v33 v41 v45 v57 v67 => 
  kSlS v0 (some (.int .i64 1)) none S fun v68 S68 =>
  κ .normal (V14.mk v68 v2 v3 v4 v5 v6 v7 v10 v18 v33 v41 v45 v57 v67) S68)
def c123_8 (C : Callee) : Cd V14 := fun v S κ => (V14.casesOn v fun v0 v2 v3 v4 v5 v6 v7 v10 v18 v33 v41 v45 v57 v67 => 
  κ .normal (V14.mk v0 v2 v3 v4 (.bool false) v6 v7 v10 v18 v33 v41 v45 v57 v67) S)
def c123_9 (C : Callee) : Cd V14 := fun v S κ => (V14.casesOn v fun v0 v2 v3 v4 v5 v6 v7 v10 v18 v33 v41 v45 v57 v67 => 
  kLen true v0 S fun v68 S68 =>
  kBin .gtr v68 (.int .i64 0) S68 fun v69 S69 =>
  bl v69 fun b => cond b
   (kIdxS v0 (.int .i64 0) S69 fun v70 S70 =>
   kBin .eql v70 (.int .u8 43) S70 fun v71 S71 =>
   bl v71 fun b => cond b
    (κ .normal (V14.mk v0 v2 v3 v4 v5 v6 v7 v10 v18 (.bool true) v41 v45 v57 v67) S71)
    (kIdxS v0 (.int .i64 0) S71 fun v72 S72 =>
    kBin .eql v72 (.int .u8 45) S72 fun v73 S73 =>
    κ .normal (V14.mk v0 v2 v3 v4 v5 v6 v7 v10 v18 v73 v41 v45 v57 v67) S73))
   (κ .normal (V14.mk v0 v2 v3 v4 v5 v6 v7 v10 v18 (.bool false) v41 v45 v57 v67) S69))
def c123_10 : V14 → Value := fun v => (V14.casesOn v fun v0 v2 v3 v4 v5 v6 v7 v10 v18 v33 v41 v45 v57 v67 => v33)
def c123_11 (C : Callee) : Cd V14 := fun v S κ => (V14.casesOn v fun v0 v2 v3 v4 v5 v6 v7 v10 v18 v33 v41 v45 v57 v67 => 
  kIdxS v0 (.int .i64 0) S fun v68 S68 =>
  kBin .eql v68 (.int .u8 45) S68 fun v69 S69 =>
  κ .normal (V14.mk v0 v2 v3 v4 v69 v6 v7 v10 v18 v33 v41 v45 v57 v67) S69)
def c123_12 (C : Callee) : Cd V14 := fun v S κ => (V14.casesOn v fun v0 v2 v3 v4 v5 v6 v7 v10 v18 v33 v41 v45 v57 v67 => 
  kSlS v0 (some (.int .i64 1)) none S fun v68 S68 =>
  κ .normal (V14.mk v68 v2 v3 v4 v5 v6 v7 v10 v18 v33 v41 v45 v57 v67) S68)
def c123_13 (C : Callee) : Cd V14 := fun v S κ => (V14.casesOn v fun v0 v2 v3 v4 v5 v6 v7 v10 v18 v33 v41 v45 v57 v67 => 
  kLen true v0 S fun v68 S68 =>
  kBin .eql v68 (.int .i64 0) S68 fun v69 S69 =>
  κ .normal (V14.mk v0 v2 v3 v4 v5 v6 v7 v10 v18 v33 v69 v45 v57 v67) S69)
def c123_14 : V14 → Value := fun v => (V14.casesOn v fun v0 v2 v3 v4 v5 v6 v7 v10 v18 v33 v41 v45 v57 v67 => v41)
def c123_15 (C : Callee) : Cd V14 := fun v S κ => (V14.casesOn v fun v0 v2 v3 v4 v5 v6 v7 v10 v18 v33 v41 v45 v57 v67 => 
  κ .normal (V14.mk v0 (.int .i64 0) (.bool false) (.int .i64 2) v5 v6 v7 v10 v18 v33 v41 v45 v57 v67) S)
def c123_16 (C : Callee) : Cd V14 := fun v S κ => (V14.casesOn v fun v0 v2 v3 v4 v5 v6 v7 v10 v18 v33 v41 v45 v57 v67 => 
  κ .normal (V14.mk v0 v2 v3 v4 v5 (.int .i64 0) v7 v10 v18 v33 v41 v45 v57 v67) S)
def c123_17 (C : Callee) : Cd V14 := fun v S κ => (V14.casesOn v fun v0 v2 v3 v4 v5 v6 v7 v10 v18 v33 v41 v45 v57 v67 => 
  κ .normal (V14.mk v0 v2 v3 v4 v5 v6 (.int .i64 0) v10 v18 v33 v41 v45 v57 v67) S)
def c123_18 (C : Callee) : Cd V14 := fun v S κ => (V14.casesOn v fun v0 v2 v3 v4 v5 v6 v7 v10 v18 v33 v41 v45 v57 v67 => 
  kLen true v0 S fun v68 S68 =>
  kBin .lss v7 v68 S68 fun v69 S69 =>
  κ .normal (V14.mk v0 v2 v3 v4 v5 v6 v7 v10 v18 v33 v41 v69 v57 v67) S69)
def c123_19 : V14 → Value := fun v => (V14.casesOn v fun v0 v2 v3 v4 v5 v6 v7 v10 v18 v33 v41 v45 v57 v67 => v45)
def c123_20 (C : Callee) : Cd V14 := fun v S κ => (V14.casesOn v fun v0 v2 v3 v4 v5 v6 v7 v10 v18 v33 v41 v45 v57 v67 => 
  kIdxS v0 v7 S fun v68 S68 =>
  kBin .lss v68 (.int .u8 48) S68 fun v69 S69 =>
  bl v69 fun b => cond b
   (κ .normal (V14.mk v0 v2 v3 v4 v5 v6 v7 v10 v18 v33 v41 v45 (.bool true) v67) S69)
   (kIdxS v0 v7 S69 fun v70 S70 =>
   kBin .gtr v70 (.int .u8 57) S70 fun v71 S71 =>
   κ .normal (V14.mk v0 v2 v3 v4 v5 v6 v7 v10 v18 v33 v41 v45 v71 v67) S71))
def c123_21 : V14 → Value := fun v => (V14.casesOn v fun v0 v2 v3 v4 v5 v6 v7 v10 v18 v33 v41 v45 v57 v67 => v57)
def c123_22 (C : Callee) : Cd V14 := fun v S κ => (V14.casesOn v fun v0 v2 v3 v4 v5 v6 v7 v10 v18 v33 v41 v45 v57 v67 => 
  κ .normal (V14.mk v0 (.int .i64 0) (.bool false) (.int .i64 2) v5 v6 v7 v10 v18 v33 v41 v45 v57 v67) S)
def c123_23 (C : Callee) : Cd V14 := fun v S κ => (V14.casesOn v fun v0 v2 v3 v4 v5 v6 v7 v10 v18 v33 v41 v45 v57 v67 => 
  kBin .mul v6 (.int .i64 10) S fun v68 S68 =>
  kIdxS v0 v7 S68 fun v69 S69 =>
  kBin .sub v69 (.int .u8 48) S69 fun v70 S70 =>
  kCvI .i64 v70 S70 fun v71 S71 =>
  kBin .add v68 v71 S71 fun v72 S72 =>
  kO (mmV false [v72, (.int .i64 100000)]) S72 fun v73 S73 =>
  κ .normal (V14.mk v0 v2 v3 v4 v5 v73 v7 v10 v18 v33 v41 v45 v57 v67) S73)
def c123_24 (C : Callee) : Cd V14 := fun v S κ => (V14.casesOn v fun v0 v2 v3 v4 v5 v6 v7 v10 v18 v33 v41 v45 v57 v67 => 
  kBin .add v7 (.int .i64 1) S fun v68 S68 =>
  κ .normal (V14.mk v0 v2 v3 v4 v5 v6 v68 v10 v18 v33 v41 v45 v57 v67) S68)
def c123_25 (C : Callee) (n : Nat) : Cd V14 := seqK (seqK (c123_18 C) (condK c123_19 (skipK) (exitK 0))) (seqK (blockK 1 (seqK (seqK (c123_20 C) (condK c123_21 (seqK (c123_22 C) (retK)) (skipK))) (c123_23 C))) (c123_24 C))
def c123_26 (C : Callee) : Cd V14 := fun v S κ => (V14.casesOn v fun v0 v2 v3 v4 v5 v6 v7 v10 v18 v33 v41 v45 v57 v67 => 
  κ .normal (V14.mk v0 v2 v3 v4 v5 v6 v7 v10 v18 v33 v41 v45 v57 v5) S)
def c123_27 : V14 → Value := fun v => (V14.casesOn v fun v0 v2 v3 v4 v5 v6 v7 v10 v18 v33 v41 v45 v57 v67 => v67)
def c123_28 (C : Callee) : Cd V14 := fun v S κ => (V14.casesOn v fun v0 v2 v3 v4 v5 v6 v7 v10 v18 v33 v41 v45 v57 v67 => 
  kUn .neg v6 S fun v68 S68 =>
  kBin .gtr v6 (.int .i64 400) S68 fun v69 S69 =>
  κ .normal (V14.mk v0 v68 v69 (.int .i64 0) v5 v6 v7 v10 v18 v33 v41 v45 v57 v67) S69)
def c123_29 (C : Callee) : Cd V14 := fun v S κ => (V14.casesOn v fun v0 v2 v3 v4 v5 v6 v7 v10 v18 v33 v41 v45 v57 v67 => 
  kBin .gtr v6 (.int .i64 400) S fun v68 S68 =>
  κ .normal (V14.mk v0 v6 v68 (.int .i64 0) v5 v6 v7 v10 v18 v33 v41 v45 v57 v67) S68)
/-- assayer/assayerref1.exponent -/
def c123 (C : Callee) (n : Nat) : Cd V14 := seqK (c123_0 C) (seqK (seqK (c123_1 C) (condK c123_2 (seqK (c123_3 C) (retK)) (skipK))) (seqK (seqK (c123_4 C) (condK c123_5 (seqK (c123_6 C) (retK)) (skipK))) (seqK (c123_7 C) (seqK (c123_8 C) (seqK (seqK (c123_9 C) (condK c123_10 (seqK (c123_11 C) (c123_12 C)) (skipK))) (seqK (seqK (c123_13 C) (condK c123_14 (seqK (c123_15 C) (retK)) (skipK))) (seqK (c123_16 C) (seqK (seqK (c123_17 C) (blockK 0 (loopK n (c123_25 C n)))) (seqK (seqK (c123_26 C) (condK c123_27 (seqK (c123_28 C) (retK)) (skipK))) (seqK (c123_29 C) (retK)))))))))))
def r123 (v : V14) (S : AW) : R := (V14.casesOn v fun v0 v2 v3 v4 v5 v6 v7 v10 v18 v33 v41 v45 v57 v67 => some (.tuple #[v2, v3, v4], S))
def g123 (C : Callee) (n : Nat) (args : List Value) (S : AW) : R := c123 C n (V14.mk (argV args 0) (argV args 2) (argV args 3) (argV args 4) (argV args 5) (argV args 6) (argV args 7) (argV args 10) (argV args 18) (argV args 33) (argV args 41) (argV args 45) (argV args 57) (argV args 67)) S fun o v S => EX.casesOn o (r123 v S) (fun _ => none) (r123 v S)
/-! assayer/assayerref1.round -/
def c124_0 (C : Callee) : Cd V13 := fun v S κ => (V13.casesOn v fun v0 v1 v4 v5 v6 v7 v8 v9 v10 v12 v15 v41 v59 => 
  κ .normal (V13.mk v0 v1 (.int .u64 0) (.bool false) v6 v7 v8 v9 v10 v12 v15 v41 v59) S)
def c124_1 (C : Callee) : Cd V13 := fun v S κ => (V13.casesOn v fun v0 v1 v4 v5 v6 v7 v8 v9 v10 v12 v15 v41 v59 => 
  kLen false v0 S fun v60 S60 =>
  kBin .eql v60 (.int .i64 0) S60 fun v61 S61 =>
  κ .normal (V13.mk v0 v1 v4 v5 v6 v7 v8 v9 v10 v12 v61 v41 v59) S61)
def c124_2 : V13 → Value := fun v => (V13.casesOn v fun v0 v1 v4 v5 v6 v7 v8 v9 v10 v12 v15 v41 v59 => v15)
def c124_3 (C : Callee) : Cd V13 := fun v S κ => (V13.casesOn v fun v0 v1 v4 v5 v6 v7 v8 v9 v10 v12 v15 v41 v59 => 
  κ .normal (V13.mk v0 v1 (.int .u64 0) (.bool true) v6 v7 v8 v9 v10 v12 v15 v41 v59) S)
def c124_4 (C : Callee) : Cd V13 := fun v S κ => (V13.casesOn v fun v0 v1 v4 v5 v6 v7 v8 v9 v10 v12 v15 v41 v59 => 
  kCall C 113 [v0] S fun v60 S60 =>
  kCall C 113 [v1] S60 fun v61 S61 =>
  kBin .sub v60 v61 S61 fun v62 S62 =>
  kBin .sub v62 (.int .i64 53) S62 fun v63 S63 =>
  kO (mmV true [v63, (.int .i64 (-1074))]) S63 fun v64 S64 =>
  κ .normal (V13.mk v0 v1 v4 v5 v64 v7 v8 v9 v10 v12 v15 v41 v59) S64)
def c124_5 (C : Callee) : Cd V13 := fun v S κ => (V13.casesOn v fun v0 v1 v4 v5 v6 v7 v8 v9 v10 v12 v15 v41 v59 => 
  kUn .neg v6 S fun v60 S60 =>
  kO (mmV true [v60, (.int .i64 0)]) S60 fun v61 S61 =>
  kCall C 112 [v0, v61] S61 fun v62 S62 =>
  kO (mmV true [v6, (.int .i64 0)]) S62 fun v63 S63 =>
  kCall C 112 [v1, v63] S63 fun v64 S64 =>
  κ .normal (V13.mk v0 v1 v4 v5 v6 v62 v64 v9 v10 v12 v15 v41 v59) S64)
def c124_6 (C : Callee) : Cd V13 := fun v S κ => (V13.casesOn v fun v0 v1 v4 v5 v6 v7 v8 v9 v10 v12 v15 v41 v59 => 
  kCall C 117 [v7, v8] S fun v60 S60 =>
  kExt 0 v60 S60 fun v61 S61 =>
  kExt 1 v60 S61 fun v62 S62 =>
  kExt 2 v60 S62 fun v63 S63 =>
  κ .normal (V13.mk v0 v1 v4 v5 v6 v7 v8 v61 v62 v12 v15 v41 v59) S63)
def c124_7 (C : Callee) : Cd V13 := fun v S κ => (V13.casesOn v fun v0 v1 v4 v5 v6 v7 v8 v9 v10 v12 v15 v41 v59 => 
  kCall C 113 [v9] S fun v60 S60 =>
  kBin .gtr v60 (.int .i64 53) S60 fun v61 S61 =>
  κ .normal (V13.mk v0 v1 v4 v5 v6 v7 v8 v9 v10 v12 v15 v61 v59) S61)
def c124_8 : V13 → Value := fun v => (V13.casesOn v fun v0 v1 v4 v5 v6 v7 v8 v9 v10 v12 v15 v41 v59 => v41)
def c124_9 (C : Callee) : Cd V13 := fun v S κ => (V13.casesOn v fun v0 v1 v4 v5 v6 v7 v8 v9 v10 v12 v15 v41 v59 => 
  kBin .add v6 (.int .i64 1) S fun v60 S60 =>
  κ .normal (V13.mk v0 v1 v4 v5 v60 v7 v8 v9 v10 v12 v15 v41 v59) S60)
def c124_10 (C : Callee) : Cd V13 := fun v S κ => (V13.casesOn v fun v0 v1 v4 v5 v6 v7 v8 v9 v10 v12 v15 v41 v59 => 
  kCall C 119 [v10, v10] S fun v60 S60 =>
  kCall C 118 [v60, v8] S60 fun v61 S61 =>
  κ .normal (V13.mk v0 v1 v4 v5 v6 v7 v8 v9 v10 v61 v15 v41 v59) S61)
def c124_11 (C : Callee) : Cd V13 := fun v S κ => (V13.casesOn v fun v0 v1 v4 v5 v6 v7 v8 v9 v10 v12 v15 v41 v59 => 
  kBin .gtr v12 (.int .i64 0) S fun v60 S60 =>
  bl v60 fun b => cond b
   (κ .normal (V13.mk v0 v1 v4 v5 v6 v7 v8 v9 v10 v12 v15 v41 (.bool true)) S60)
   (kBin .eql v12 (.int .i64 0) S60 fun v61 S61 =>
   bl v61 fun b => cond b
    (kCall C 126 [v9, (.int .i64 0)] S61 fun v62 S62 =>
    kBin .eql v62 (.int .u64 1) S62 fun v63 S63 =>
    κ .normal (V13.mk v0 v1 v4 v5 v6 v7 v8 v9 v10 v12 v15 v41 v63) S63)
    (κ .normal (V13.mk v0 v1 v4 v5 v6 v7 v8 v9 v10 v12 v15 v41 (.bool false)) S61)))
def c124_12 : V13 → Value := fun v => (V13.casesOn v fun v0 v1 v4 v5 v6 v7 v8 v9 v10 v12 v15 v41 v59 => v59)
def c124_13 (C : Callee) : Cd V13 := fun v S κ => (V13.casesOn v fun v0 v1 v4 v5 v6 v7 v8 v9 v10 v12 v15 v41 v59 => 
  kCall C 111 [(.int .u64 1)] S fun v60 S60 =>
  kCall C 119 [v9, v60] S60 fun v61 S61 =>
  κ .normal (V13.mk v0 v1 v4 v5 v6 v7 v8 v61 v10 v12 v15 v41 v59) S61)
def c124_14 (C : Callee) : Cd V13 := fun v S κ => (V13.casesOn v fun v0 v1 v4 v5 v6 v7 v8 v9 v10 v12 v15 v41 v59 => 
  kCall C 120 [v9] S fun v60 S60 =>
  kCall C 129 [v60, v6] S60 fun v61 S61 =>
  kExt 0 v61 S61 fun v62 S62 =>
  kExt 1 v61 S62 fun v63 S63 =>
  κ .normal (V13.mk v0 v1 v62 v63 v6 v7 v8 v9 v10 v12 v15 v41 v59) S63)
def c124_15 (C : Callee) (n : Nat) : Cd V13 := blockK 1 (seqK (c124_5 C) (seqK (c124_6 C) (seqK (seqK (c124_7 C) (condK c124_8 (seqK (c124_9 C) (exitK 1)) (skipK))) (seqK (c124_10 C) (seqK (seqK (c124_11 C) (condK c124_12 (c124_13 C) (skipK))) (seqK (c124_14 C) (retK)))))))
/-- assayer/assayerref1.round -/
def c124 (C : Callee) (n : Nat) : Cd V13 := seqK (c124_0 C) (seqK (seqK (c124_1 C) (condK c124_2 (seqK (c124_3 C) (retK)) (skipK))) (seqK (c124_4 C) (blockK 0 (loopK n (c124_15 C n)))))
def r124 (v : V13) (S : AW) : R := (V13.casesOn v fun v0 v1 v4 v5 v6 v7 v8 v9 v10 v12 v15 v41 v59 => some (.tuple #[v4, v5], S))
def g124 (C : Callee) (n : Nat) (args : List Value) (S : AW) : R := c124 C n (V13.mk (argV args 0) (argV args 1) (argV args 4) (argV args 5) (argV args 6) (argV args 7) (argV args 8) (argV args 9) (argV args 10) (argV args 12) (argV args 15) (argV args 41) (argV args 59)) S fun o v S => EX.casesOn o (r124 v S) (fun _ => none) (r124 v S)
/-! assayer/assayerref1.Norm -/
def c125_0 (C : Callee) : Cd V4 := fun v S κ => (V4.casesOn v fun v0 v2 v3 v15 => 
  κ .normal (V4.mk v0 (.slice none 0 0) v3 v15) S)
def c125_1 (C : Callee) : Cd V4 := fun v S κ => (V4.casesOn v fun v0 v2 v3 v15 => 
  kLen false v0 S fun v16 S16 =>
  κ .normal (V4.mk v0 v2 v16 v15) S16)
def c125_2 (C : Callee) : Cd V4 := fun v S κ => (V4.casesOn v fun v0 v2 v3 v15 => 
  kBin .gtr v3 (.int .i64 0) S fun v16 S16 =>
  bl v16 fun b => cond b
   (kBin .sub v3 (.int .i64 1) S16 fun v17 S17 =>
   kIad 1 v0 v17 S17 fun v18 S18 =>
   kLd none v18 S18 fun v19 S19 =>
   kBin .eql v19 (.int .u32 0) S19 fun v20 S20 =>
   κ .normal (V4.mk v0 v2 v3 v20) S20)
   (κ .normal (V4.mk v0 v2 v3 (.bool false)) S16))
def c125_3 : V4 → Value := fun v => (V4.casesOn v fun v0 v2 v3 v15 => v15)
def c125_4 (C : Callee) : Cd V4 := fun v S κ => (V4.casesOn v fun v0 v2 v3 v15 => 
  kBin .sub v3 (.int .i64 1) S fun v16 S16 =>
  κ .normal (V4.mk v0 v2 v16 v15) S16)
def c125_5 (C : Callee) (n : Nat) : Cd V4 := seqK (seqK (c125_2 C) (condK c125_3 (skipK) (exitK 0))) (blockK 1 (c125_4 C))
def c125_6 (C : Callee) : Cd V4 := fun v S κ => (V4.casesOn v fun v0 v2 v3 v15 => 
  kLit 165 1 [.int .u32 0] 0 [] S fun v16 S16 =>
  kSlV C 1 v0 none (some v3) none S16 fun v17 S17 =>
  kApp 165 1 4 v16 v17 S17 fun v18 S18 =>
  κ .normal (V4.mk v0 v18 v3 v15) S18)
/-- assayer/assayerref1.Norm -/
def c125 (C : Callee) (n : Nat) : Cd V4 := seqK (c125_0 C) (seqK (c125_1 C) (seqK (blockK 0 (loopK n (c125_5 C n))) (seqK (c125_6 C) (retK))))
def r125 (v : V4) (S : AW) : R := (V4.casesOn v fun v0 v2 v3 v15 => some (v2, S))
def g125 (C : Callee) (n : Nat) (args : List Value) (S : AW) : R := c125 C n (V4.mk (argV args 0) (argV args 2) (argV args 3) (argV args 15)) S fun o v S => EX.casesOn o (r125 v S) (fun _ => none) (r125 v S)
/-! assayer/assayerref1.bit -/
def c126_0 (C : Callee) : Cd V3 := fun v S κ => (V3.casesOn v fun v0 v1 v4 => 
  κ .normal (V3.mk v0 v1 (.int .u64 0)) S)
def c126_1 (C : Callee) : Cd V3 := fun v S κ => (V3.casesOn v fun v0 v1 v4 => 
  kBin .quo v1 (.int .i64 32) S fun v5 S5 =>
  kCall C 128 [v0, v5] S5 fun v6 S6 =>
  kBin .rem v1 (.int .i64 32) S6 fun v7 S7 =>
  kBin .shr v6 v7 S7 fun v8 S8 =>
  kBin .and v8 (.int .u64 1) S8 fun v9 S9 =>
  κ .normal (V3.mk v0 v1 v9) S9)
/-- assayer/assayerref1.bit -/
def c126 (C : Callee) (n : Nat) : Cd V3 := seqK (c126_0 C) (seqK (c126_1 C) (retK))
def r126 (v : V3) (S : AW) : R := (V3.casesOn v fun v0 v1 v4 => some (v4, S))
def g126 (C : Callee) (n : Nat) (args : List Value) (S : AW) : R := c126 C n (V3.mk (argV args 0) (argV args 1) (argV args 4)) S fun o v S => EX.casesOn o (r126 v S) (fun _ => none) (r126 v S)
/-! assayer/assayerref1.Sub -/
def c127_0 (C : Callee) : Cd V10 := fun v S κ => (V10.casesOn v fun v0 v1 v4 v5 v6 v7 v8 v9 v13 v17 => 
  κ .normal (V10.mk v0 v1 (.slice none 0 0) (.bool false) v6 v7 v8 v9 v13 v17) S)
def c127_1 (C : Callee) : Cd V10 := fun v S κ => (V10.casesOn v fun v0 v1 v4 v5 v6 v7 v8 v9 v13 v17 => 
  kCall C 118 [v0, v1] S fun v18 S18 =>
  kBin .lss v18 (.int .i64 0) S18 fun v19 S19 =>
  κ .normal (V10.mk v0 v1 v4 v5 v6 v7 v8 v9 v19 v17) S19)
def c127_2 : V10 → Value := fun v => (V10.casesOn v fun v0 v1 v4 v5 v6 v7 v8 v9 v13 v17 => v13)
def c127_3 (C : Callee) : Cd V10 := fun v S κ => (V10.casesOn v fun v0 v1 v4 v5 v6 v7 v8 v9 v13 v17 => 
  κ .normal (V10.mk v0 v1 (.slice none 0 0) (.bool false) v6 v7 v8 v9 v13 v17) S)
def c127_4 (C : Callee) : Cd V10 := fun v S κ => (V10.casesOn v fun v0 v1 v4 v5 v6 v7 v8 v9 v13 v17 => 
  κ .normal (V10.mk v0 v1 v4 v5 (.slice none 0 0) v7 v8 v9 v13 v17) S)
def c127_5 (C : Callee) : Cd V10 := fun v S κ => (V10.casesOn v fun v0 v1 v4 v5 v6 v7 v8 v9 v13 v17 => 
  κ .normal (V10.mk v0 v1 v4 v5 v6 (.int .u64 0) v8 v9 v13 v17) S)
def c127_6 (C : Callee) : Cd V10 := fun v S κ => (V10.casesOn v fun v0 v1 v4 v5 v6 v7 v8 v9 v13 v17 => 
  κ .normal (V10.mk v0 v1 v4 v5 v6 v7 (.int .i64 0) v9 v13 v17) S)
def c127_7 (C : Callee) : Cd V10 := fun v S κ => (V10.casesOn v fun v0 v1 v4 v5 v6 v7 v8 v9 v13 v17 => 
  kLen false v0 S fun v18 S18 =>
  kBin .lss v8 v18 S18 fun v19 S19 =>
  κ .normal (V10.mk v0 v1 v4 v5 v6 v7 v8 v9 v13 v19) S19)
def c127_8 : V10 → Value := fun v => (V10.casesOn v fun v0 v1 v4 v5 v6 v7 v8 v9 v13 v17 => v17)
def c127_9 (C : Callee) : Cd V10 := fun v S κ => (V10.casesOn v fun v0 v1 v4 v5 v6 v7 v8 v9 v13 v17 => 
  kCall C 128 [v0, v8] S fun v18 S18 =>
  kBin .add v18 (.int .u64 4294967296) S18 fun v19 S19 =>
  kCall C 128 [v1, v8] S19 fun v20 S20 =>
  kBin .sub v19 v20 S20 fun v21 S21 =>
  kBin .sub v21 v7 S21 fun v22 S22 =>
  κ .normal (V10.mk v0 v1 v4 v5 v6 v7 v8 v22 v13 v17) S22)
def c127_10 (C : Callee) : Cd V10 := fun v S κ => (V10.casesOn v fun v0 v1 v4 v5 v6 v7 v8 v9 v13 v17 => 
  kCvI .u32 v9 S fun v18 S18 =>
  kLit 165 1 [.int .u32 0] 1 [(0, 1, v18)] S18 fun v19 S19 =>
  kApp 165 1 4 v6 v19 S19 fun v20 S20 =>
  κ .normal (V10.mk v0 v1 v4 v5 v20 v7 v8 v9 v13 v17) S20)
def c127_11 (C : Callee) : Cd V10 := fun v S κ => (V10.casesOn v fun v0 v1 v4 v5 v6 v7 v8 v9 v13 v17 => 
  kBin .shr v9 (.int .u64 32) S fun v18 S18 =>
  kBin .sub (.int .u64 1) v18 S18 fun v19 S19 =>
  κ .normal (V10.mk v0 v1 v4 v5 v6 v19 v8 v9 v13 v17) S19)
def c127_12 (C : Callee) : Cd V10 := fun v S κ => (V10.casesOn v fun v0 v1 v4 v5 v6 v7 v8 v9 v13 v17 => 
  kBin .add v8 (.int .i64 1) S fun v18 S18 =>
  κ .normal (V10.mk v0 v1 v4 v5 v6 v7 v18 v9 v13 v17) S18)
def c127_13 (C : Callee) (n : Nat) : Cd V10 := seqK (seqK (c127_7 C) (condK c127_8 (skipK) (exitK 0))) (seqK (blockK 1 (seqK (c127_9 C) (seqK (c127_10 C) (c127_11 C)))) (c127_12 C))
def c127_14 (C : Callee) : Cd V10 := fun v S κ => (V10.casesOn v fun v0 v1 v4 v5 v6 v7 v8 v9 v13 v17 => 
  kCall C 125 [v6] S fun v18 S18 =>
  κ .normal (V10.mk v0 v1 v18 (.bool true) v6 v7 v8 v9 v13 v17) S18)
/-- assayer/assayerref1.Sub -/
def c127 (C : Callee) (n : Nat) : Cd V10 := seqK (c127_0 C) (seqK (seqK (c127_1 C) (condK c127_2 (seqK (c127_3 C) (retK)) (skipK))) (seqK (c127_4 C) (seqK (c127_5 C) (seqK (seqK (c127_6 C) (blockK 0 (loopK n (c127_13 C n)))) (seqK (c127_14 C) (retK))))))
def r127 (v : V10) (S : AW) : R := (V10.casesOn v fun v0 v1 v4 v5 v6 v7 v8 v9 v13 v17 => some (.tuple #[v4, v5], S))
def g127 (C : Callee) (n : Nat) (args : List Value) (S : AW) : R := c127 C n (V10.mk (argV args 0) (argV args 1) (argV args 4) (argV args 5) (argV args 6) (argV args 7) (argV args 8) (argV args 9) (argV args 13) (argV args 17)) S fun o v S => EX.casesOn o (r127 v S) (fun _ => none) (r127 v S)
/-! assayer/assayerref1.at -/
def c128_0 (C : Callee) : Cd V4 := fun v S κ => (V4.casesOn v fun v0 v1 v4 v8 => 
  κ .normal (V4.mk v0 v1 (.int .u64 0) v8) S)
def c128_1 (C : Callee) : Cd V4 := fun v S κ => (V4.casesOn v fun v0 v1 v4 v8 => 
  kLen false v0 S fun v9 S9 =>
  kBin .lss v1 v9 S9 fun v10 S10 =>
  κ .normal (V4.mk v0 v1 v4 v10) S10)
def c128_2 : V4 → Value := fun v => (V4.casesOn v fun v0 v1 v4 v8 => v8)
def c128_3 (C : Callee) : Cd V4 := fun v S κ => (V4.casesOn v fun v0 v1 v4 v8 => 
  kIad 1 v0 v1 S fun v9 S9 =>
  kLd none v9 S9 fun v10 S10 =>
  kCvI .u64 v10 S10 fun v11 S11 =>
  κ .normal (V4.mk v0 v1 v11 v8) S11)
def c128_4 (C : Callee) : Cd V4 := fun v S κ => (V4.casesOn v fun v0 v1 v4 v8 => 
  κ .normal (V4.mk v0 v1 (.int .u64 0) v8) S)
/-- assayer/assayerref1.at -/
def c128 (C : Callee) (n : Nat) : Cd V4 := seqK (c128_0 C) (seqK (seqK (c128_1 C) (condK c128_2 (seqK (c128_3 C) (retK)) (skipK))) (seqK (c128_4 C) (retK)))
def r128 (v : V4) (S : AW) : R := (V4.casesOn v fun v0 v1 v4 v8 => some (v4, S))
def g128 (C : Callee) (n : Nat) (args : List Value) (S : AW) : R := c128 C n (V4.mk (argV args 0) (argV args 1) (argV args 4) (argV args 8)) S fun o v S => EX.casesOn o (r128 v S) (fun _ => none) (r128 v S)
/-! assayer/assayerref1.packed -/
def c129_0 (C : Callee) : Cd V7 := fun v S κ => (V7.casesOn v fun v0 v1 v4 v5 v7 v13 v16 => 
  κ .normal (V7.mk v0 v1 (.int .u64 0) (.bool false) v7 v13 v16) S)
def c129_1 (C : Callee) : Cd V7 := fun v S κ => (V7.casesOn v fun v0 v1 v4 v5 v7 v13 v16 => 
  kBin .eql v0 (.int .u64 9007199254740992) S fun v17 S17 =>
  κ .normal (V7.mk v0 v1 v4 v5 v17 v13 v16) S17)
def c129_2 : V7 → Value := fun v => (V7.casesOn v fun v0 v1 v4 v5 v7 v13 v16 => v7)
def c129_3 (C : Callee) : Cd V7 := fun v S κ => (V7.casesOn v fun v0 v1 v4 v5 v7 v13 v16 => 
  kBin .quo v0 (.int .u64 2) S fun v17 S17 =>
  kBin .add v1 (.int .i64 1) S17 fun v18 S18 =>
  κ .normal (V7.mk v17 v18 v4 v5 v7 v13 v16) S18)
def c129_4 (C : Callee) : Cd V7 := fun v S κ => (V7.casesOn v fun v0 v1 v4 v5 v7 v13 v16 => 
  kBin .lss v0 (.int .u64 4503599627370496) S fun v17 S17 =>
  κ .normal (V7.mk v0 v1 v4 v5 v7 v17 v16) S17)
def c129_5 : V7 → Value := fun v => (V7.casesOn v fun v0 v1 v4 v5 v7 v13 v16 => v13)
def c129_6 (C : Callee) : Cd V7 := fun v S κ => (V7.casesOn v fun v0 v1 v4 v5 v7 v13 v16 => 
  κ .normal (V7.mk v0 v1 v0 (.bool true) v7 v13 v16) S)
def c129_7 (C : Callee) : Cd V7 := fun v S κ => (V7.casesOn v fun v0 v1 v4 v5 v7 v13 v16 => 
  kBin .gtr v1 (.int .i64 971) S fun v17 S17 =>
  κ .normal (V7.mk v0 v1 v4 v5 v7 v13 v17) S17)
def c129_8 : V7 → Value := fun v => (V7.casesOn v fun v0 v1 v4 v5 v7 v13 v16 => v16)
def c129_9 (C : Callee) : Cd V7 := fun v S κ => (V7.casesOn v fun v0 v1 v4 v5 v7 v13 v16 => 
  κ .normal (V7.mk v0 v1 (.int .u64 0) (.bool false) v7 v13 v16) S)
def c129_10 (C : Callee) : Cd V7 := fun v S κ => (V7.casesOn v fun v0 v1 v4 v5 v7 v13 v16 => 
  kBin .add v1 (.int .i64 1075) S fun v17 S17 =>
  kCvI .u64 v17 S17 fun v18 S18 =>
  kBin .shl v18 (.int .u64 52) S18 fun v19 S19 =>
  kBin .sub v0 (.int .u64 4503599627370496) S19 fun v20 S20 =>
  kBin .or v19 v20 S20 fun v21 S21 =>
  κ .normal (V7.mk v0 v1 v21 (.bool true) v7 v13 v16) S21)
/-- assayer/assayerref1.packed -/
def c129 (C : Callee) (n : Nat) : Cd V7 := seqK (c129_0 C) (seqK (seqK (c129_1 C) (condK c129_2 (c129_3 C) (skipK))) (seqK (seqK (c129_4 C) (condK c129_5 (seqK (c129_6 C) (retK)) (skipK))) (seqK (seqK (c129_7 C) (condK c129_8 (seqK (c129_9 C) (retK)) (skipK))) (seqK (c129_10 C) (retK)))))
def r129 (v : V7) (S : AW) : R := (V7.casesOn v fun v0 v1 v4 v5 v7 v13 v16 => some (.tuple #[v4, v5], S))
def g129 (C : Callee) (n : Nat) (args : List Value) (S : AW) : R := c129 C n (V7.mk (argV args 0) (argV args 1) (argV args 4) (argV args 5) (argV args 7) (argV args 13) (argV args 16)) S fun o v S => EX.casesOn o (r129 v S) (fun _ => none) (r129 v S)
end Go.Proofs.YtbngpadibllogaaGreatDoor.Ev
