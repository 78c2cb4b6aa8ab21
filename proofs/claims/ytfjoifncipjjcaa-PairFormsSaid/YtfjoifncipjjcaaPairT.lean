/- Functions of the program, each told by what goes on behind each step: printed by a program of ours. -/
import Derived.Test.YtfjoifncipjjcaaPairX
import Derived.Test.YtfjoifncipjjcaaPairV
namespace Go.Proofs.Ytfjoifncipjjcaa.Ev
open Go Go.RowKit
set_option linter.unusedVariables false
/-! assayer/assayerlaw24.PairForms -/
def c3_0 (C : Callee) : Cd V18 := fun v S κ => (V18.casesOn v fun v0 v1 v2 v3 v4 v5 v6 v7 v8 v9 v10 v11 v12 v13 v15 v53 v59 v80 => 
  κ .normal (V18.mk (.bool false) v1 v2 v3 v4 v5 v6 v7 v8 v9 v10 v11 v12 v13 v15 v53 v59 v80) S)
def c3_1 (C : Callee) : Cd V18 := fun v S κ => (V18.casesOn v fun v0 v1 v2 v3 v4 v5 v6 v7 v8 v9 v10 v11 v12 v13 v15 v53 v59 v80 => 
  kCall C 10 [] S fun v81 S81 =>
  kUn .not v81 S81 fun v82 S82 =>
  κ .normal (V18.mk v0 v1 v2 v3 v4 v5 v6 v7 v8 v9 v10 v11 v12 v13 v82 v53 v59 v80) S82)
def c3_2 : V18 → Value := fun v => (V18.casesOn v fun v0 v1 v2 v3 v4 v5 v6 v7 v8 v9 v10 v11 v12 v13 v15 v53 v59 v80 => v15)
def c3_3 (C : Callee) : Cd V18 := fun v S κ => (V18.casesOn v fun v0 v1 v2 v3 v4 v5 v6 v7 v8 v9 v10 v11 v12 v13 v15 v53 v59 v80 => 
  κ .normal (V18.mk (.bool false) v1 v2 v3 v4 v5 v6 v7 v8 v9 v10 v11 v12 v13 v15 v53 v59 v80) S)
def c3_4 (C : Callee) : Cd V18 := fun v S κ => (V18.casesOn v fun v0 v1 v2 v3 v4 v5 v6 v7 v8 v9 v10 v11 v12 v13 v15 v53 v59 v80 => 
  kCall C 11 [(.int .i64 1), (.int .i64 1), (.string ⟨#[105, 56]⟩)] S fun v81 S81 =>
  kLit 28 10 [.int .i64 0, .int .i64 0, .string ⟨#[]⟩, .string ⟨#[]⟩, .bool false, .int .i64 0, .int .i64 0, .string ⟨#[]⟩, .slice none 0 0, .slice none 0 0] 1 [(0, 10, v81)] S81 fun v82 S82 =>
  kBuild [.int .i64 0, .string ⟨#[]⟩, .slice none 0 0] [(0, 1, (.int .i64 4)), (2, 1, v82)] S82 fun v83 S83 =>
  kNew 32 3 [.int .i64 0, .string ⟨#[]⟩, .slice none 0 0] S83 fun v84 S84 =>
  kSt 3 v84 v83 S84 fun v85 S85 =>
  κ .normal (V18.mk v0 v84 v2 v3 v4 v5 v6 v7 v8 v9 v10 v11 v12 v13 v15 v53 v59 v80) S85)
def c3_5 (C : Callee) : Cd V18 := fun v S κ => (V18.casesOn v fun v0 v1 v2 v3 v4 v5 v6 v7 v8 v9 v10 v11 v12 v13 v15 v53 v59 v80 => 
  kCall C 11 [(.int .i64 1), (.int .i64 0), (.string ⟨#[105, 56]⟩)] S fun v81 S81 =>
  kLit 28 10 [.int .i64 0, .int .i64 0, .string ⟨#[]⟩, .string ⟨#[]⟩, .bool false, .int .i64 0, .int .i64 0, .string ⟨#[]⟩, .slice none 0 0, .slice none 0 0] 1 [(0, 10, v81)] S81 fun v82 S82 =>
  kBuild [.int .i64 0, .string ⟨#[]⟩, .slice none 0 0] [(0, 1, (.int .i64 4)), (2, 1, v82)] S82 fun v83 S83 =>
  kNew 32 3 [.int .i64 0, .string ⟨#[]⟩, .slice none 0 0] S83 fun v84 S84 =>
  kSt 3 v84 v83 S84 fun v85 S85 =>
  κ .normal (V18.mk v0 v1 v84 v3 v4 v5 v6 v7 v8 v9 v10 v11 v12 v13 v15 v53 v59 v80) S85)
def c3_6 (C : Callee) : Cd V18 := fun v S κ => (V18.casesOn v fun v0 v1 v2 v3 v4 v5 v6 v7 v8 v9 v10 v11 v12 v13 v15 v53 v59 v80 => 
  kCall C 11 [(.int .i64 1), (.int .i64 0), (.string ⟨#[105, 56]⟩)] S fun v81 S81 =>
  kLit 28 10 [.int .i64 0, .int .i64 0, .string ⟨#[]⟩, .string ⟨#[]⟩, .bool false, .int .i64 0, .int .i64 0, .string ⟨#[]⟩, .slice none 0 0, .slice none 0 0] 1 [(0, 10, v81)] S81 fun v82 S82 =>
  kBuild [.int .i64 0, .string ⟨#[]⟩, .slice none 0 0] [(0, 1, (.int .i64 5)), (2, 1, v82)] S82 fun v83 S83 =>
  kNew 32 3 [.int .i64 0, .string ⟨#[]⟩, .slice none 0 0] S83 fun v84 S84 =>
  kSt 3 v84 v83 S84 fun v85 S85 =>
  κ .normal (V18.mk v0 v1 v2 v84 v4 v5 v6 v7 v8 v9 v10 v11 v12 v13 v15 v53 v59 v80) S85)
def c3_7 (C : Callee) : Cd V18 := fun v S κ => (V18.casesOn v fun v0 v1 v2 v3 v4 v5 v6 v7 v8 v9 v10 v11 v12 v13 v15 v53 v59 v80 => 
  kCall C 11 [(.int .i64 1), (.int .i64 0), (.string ⟨#[105, 56]⟩)] S fun v81 S81 =>
  kCall C 11 [(.int .i64 2), (.int .i64 0), (.string ⟨#[105, 56]⟩)] S81 fun v82 S82 =>
  kLit 28 10 [.int .i64 0, .int .i64 0, .string ⟨#[]⟩, .string ⟨#[]⟩, .bool false, .int .i64 0, .int .i64 0, .string ⟨#[]⟩, .slice none 0 0, .slice none 0 0] 2 [(0, 10, v81), (10, 10, v82)] S82 fun v83 S83 =>
  kBuild [.int .i64 0, .string ⟨#[]⟩, .slice none 0 0] [(0, 1, (.int .i64 5)), (2, 1, v83)] S83 fun v84 S84 =>
  kNew 32 3 [.int .i64 0, .string ⟨#[]⟩, .slice none 0 0] S84 fun v85 S85 =>
  kSt 3 v85 v84 S85 fun v86 S86 =>
  κ .normal (V18.mk v0 v1 v2 v3 v85 v5 v6 v7 v8 v9 v10 v11 v12 v13 v15 v53 v59 v80) S86)
def c3_8 (C : Callee) : Cd V18 := fun v S κ => (V18.casesOn v fun v0 v1 v2 v3 v4 v5 v6 v7 v8 v9 v10 v11 v12 v13 v15 v53 v59 v80 => 
  kBuild [.int .i64 0, .string ⟨#[]⟩, .slice none 0 0] [(0, 1, (.int .i64 6))] S fun v81 S81 =>
  kNew 32 3 [.int .i64 0, .string ⟨#[]⟩, .slice none 0 0] S81 fun v82 S82 =>
  kSt 3 v82 v81 S82 fun v83 S83 =>
  κ .normal (V18.mk v0 v1 v2 v3 v4 v82 v6 v7 v8 v9 v10 v11 v12 v13 v15 v53 v59 v80) S83)
def c3_9 (C : Callee) : Cd V18 := fun v S κ => (V18.casesOn v fun v0 v1 v2 v3 v4 v5 v6 v7 v8 v9 v10 v11 v12 v13 v15 v53 v59 v80 => 
  kCall C 11 [(.int .i64 1), (.int .i64 0), (.string ⟨#[105, 56]⟩)] S fun v81 S81 =>
  kLit 28 10 [.int .i64 0, .int .i64 0, .string ⟨#[]⟩, .string ⟨#[]⟩, .bool false, .int .i64 0, .int .i64 0, .string ⟨#[]⟩, .slice none 0 0, .slice none 0 0] 1 [(0, 10, v81)] S81 fun v82 S82 =>
  kBuild [.int .i64 0, .string ⟨#[]⟩, .slice none 0 0] [(0, 1, (.int .i64 8)), (2, 1, v82)] S82 fun v83 S83 =>
  kNew 32 3 [.int .i64 0, .string ⟨#[]⟩, .slice none 0 0] S83 fun v84 S84 =>
  kSt 3 v84 v83 S84 fun v85 S85 =>
  κ .normal (V18.mk v0 v1 v2 v3 v4 v5 v84 v7 v8 v9 v10 v11 v12 v13 v15 v53 v59 v80) S85)
def c3_10 (C : Callee) : Cd V18 := fun v S κ => (V18.casesOn v fun v0 v1 v2 v3 v4 v5 v6 v7 v8 v9 v10 v11 v12 v13 v15 v53 v59 v80 => 
  kCall C 11 [(.int .i64 1), (.int .i64 0), (.string ⟨#[105, 49, 54]⟩)] S fun v81 S81 =>
  kLit 28 10 [.int .i64 0, .int .i64 0, .string ⟨#[]⟩, .string ⟨#[]⟩, .bool false, .int .i64 0, .int .i64 0, .string ⟨#[]⟩, .slice none 0 0, .slice none 0 0] 1 [(0, 10, v81)] S81 fun v82 S82 =>
  kBuild [.int .i64 0, .string ⟨#[]⟩, .slice none 0 0] [(0, 1, (.int .i64 4)), (2, 1, v82)] S82 fun v83 S83 =>
  kNew 32 3 [.int .i64 0, .string ⟨#[]⟩, .slice none 0 0] S83 fun v84 S84 =>
  kSt 3 v84 v83 S84 fun v85 S85 =>
  κ .normal (V18.mk v0 v1 v2 v3 v4 v5 v6 v84 v8 v9 v10 v11 v12 v13 v15 v53 v59 v80) S85)
def c3_11 (C : Callee) : Cd V18 := fun v S κ => (V18.casesOn v fun v0 v1 v2 v3 v4 v5 v6 v7 v8 v9 v10 v11 v12 v13 v15 v53 v59 v80 => 
  kCall C 11 [(.int .i64 1), (.int .i64 2), (.string ⟨#[105, 56]⟩)] S fun v81 S81 =>
  kCall C 11 [(.int .i64 2), (.int .i64 2), (.string ⟨#[105, 56]⟩)] S81 fun v82 S82 =>
  kLit 28 10 [.int .i64 0, .int .i64 0, .string ⟨#[]⟩, .string ⟨#[]⟩, .bool false, .int .i64 0, .int .i64 0, .string ⟨#[]⟩, .slice none 0 0, .slice none 0 0] 2 [(0, 10, v81), (10, 10, v82)] S82 fun v83 S83 =>
  kBuild [.int .i64 0, .string ⟨#[]⟩, .slice none 0 0] [(0, 1, (.int .i64 4)), (2, 1, v83)] S83 fun v84 S84 =>
  kNew 32 3 [.int .i64 0, .string ⟨#[]⟩, .slice none 0 0] S84 fun v85 S85 =>
  kSt 3 v85 v84 S85 fun v86 S86 =>
  κ .normal (V18.mk v0 v1 v2 v3 v4 v5 v6 v7 v85 v9 v10 v11 v12 v13 v15 v53 v59 v80) S86)
def c3_12 (C : Callee) : Cd V18 := fun v S κ => (V18.casesOn v fun v0 v1 v2 v3 v4 v5 v6 v7 v8 v9 v10 v11 v12 v13 v15 v53 v59 v80 => 
  kLd (some 3) v1 S fun v81 S81 =>
  kLd (some 3) v2 S81 fun v82 S82 =>
  kLd (some 3) v3 S82 fun v83 S83 =>
  kLd (some 3) v4 S83 fun v84 S84 =>
  kLd (some 3) v5 S84 fun v85 S85 =>
  kLd (some 3) v6 S85 fun v86 S86 =>
  kLd (some 3) v7 S86 fun v87 S87 =>
  kLd (some 3) v8 S87 fun v88 S88 =>
  kLit 32 3 [.int .i64 0, .string ⟨#[]⟩, .slice none 0 0] 8 [(0, 3, v81), (3, 3, v82), (6, 3, v83), (9, 3, v84), (12, 3, v85), (15, 3, v86), (18, 3, v87), (21, 3, v88)] S88 fun v89 S89 =>
  κ .normal (V18.mk v0 v1 v2 v3 v4 v5 v6 v7 v8 v89 v10 v11 v12 v13 v15 v53 v59 v80) S89)
def c3_13 (C : Callee) : Cd V18 := fun v S κ => (V18.casesOn v fun v0 v1 v2 v3 v4 v5 v6 v7 v8 v9 v10 v11 v12 v13 v15 v53 v59 v80 => 
  kLit 9 1 [.string ⟨#[]⟩] 8 [(0, 1, (.string ⟨#[121, 121, 121, 121, 121, 121, 110, 121]⟩)), (1, 1, (.string ⟨#[110, 121, 110, 110, 121, 121, 110, 121]⟩)), (2, 1, (.string ⟨#[121, 121, 121, 121, 121, 121, 110, 121]⟩)), (3, 1, (.string ⟨#[110, 121, 110, 121, 121, 110, 110, 121]⟩)), (4, 1, (.string ⟨#[110, 121, 110, 110, 121, 121, 121, 121]⟩)), (5, 1, (.string ⟨#[110, 121, 110, 110, 121, 121, 110, 121]⟩)), (6, 1, (.string ⟨#[110, 110, 110, 110, 121, 110, 121, 110]⟩)), (7, 1, (.string ⟨#[110, 121, 110, 110, 121, 110, 110, 121]⟩))] S fun v81 S81 =>
  κ .normal (V18.mk v0 v1 v2 v3 v4 v5 v6 v7 v8 v9 v81 v11 v12 v13 v15 v53 v59 v80) S81)
def c3_14 (C : Callee) : Cd V18 := fun v S κ => (V18.casesOn v fun v0 v1 v2 v3 v4 v5 v6 v7 v8 v9 v10 v11 v12 v13 v15 v53 v59 v80 => 
  kNew 38 3 [.slice none 0 0, .slice none 0 0, .slice none 0 0] S fun v81 S81 =>
  κ .normal (V18.mk v0 v1 v2 v3 v4 v5 v6 v7 v8 v9 v10 v81 v12 v13 v15 v53 v59 v80) S81)
def c3_15 (C : Callee) : Cd V18 := fun v S κ => (V18.casesOn v fun v0 v1 v2 v3 v4 v5 v6 v7 v8 v9 v10 v11 v12 v13 v15 v53 v59 v80 => 
  κ .normal (V18.mk v0 v1 v2 v3 v4 v5 v6 v7 v8 v9 v10 v11 (.int .i64 0) v13 v15 v53 v59 v80) S)
def c3_16 (C : Callee) : Cd V18 := fun v S κ => (V18.casesOn v fun v0 v1 v2 v3 v4 v5 v6 v7 v8 v9 v10 v11 v12 v13 v15 v53 v59 v80 => 
  kLen false v9 S fun v81 S81 =>
  kBin .lss v12 v81 S81 fun v82 S82 =>
  κ .normal (V18.mk v0 v1 v2 v3 v4 v5 v6 v7 v8 v9 v10 v11 v12 v13 v15 v82 v59 v80) S82)
def c3_17 : V18 → Value := fun v => (V18.casesOn v fun v0 v1 v2 v3 v4 v5 v6 v7 v8 v9 v10 v11 v12 v13 v15 v53 v59 v80 => v53)
def c3_18 (C : Callee) : Cd V18 := fun v S κ => (V18.casesOn v fun v0 v1 v2 v3 v4 v5 v6 v7 v8 v9 v10 v11 v12 v13 v15 v53 v59 v80 => 
  κ .normal (V18.mk v0 v1 v2 v3 v4 v5 v6 v7 v8 v9 v10 v11 v12 (.int .i64 0) v15 v53 v59 v80) S)
def c3_19 (C : Callee) : Cd V18 := fun v S κ => (V18.casesOn v fun v0 v1 v2 v3 v4 v5 v6 v7 v8 v9 v10 v11 v12 v13 v15 v53 v59 v80 => 
  kLen false v9 S fun v81 S81 =>
  kBin .lss v13 v81 S81 fun v82 S82 =>
  κ .normal (V18.mk v0 v1 v2 v3 v4 v5 v6 v7 v8 v9 v10 v11 v12 v13 v15 v53 v82 v80) S82)
def c3_20 : V18 → Value := fun v => (V18.casesOn v fun v0 v1 v2 v3 v4 v5 v6 v7 v8 v9 v10 v11 v12 v13 v15 v53 v59 v80 => v59)
def c3_21 (C : Callee) : Cd V18 := fun v S κ => (V18.casesOn v fun v0 v1 v2 v3 v4 v5 v6 v7 v8 v9 v10 v11 v12 v13 v15 v53 v59 v80 => 
  kLd (some 3) v11 S fun v81 S81 =>
  kLd (some 3) v11 S81 fun v82 S82 =>
  kIad 3 v9 v12 S82 fun v83 S83 =>
  kLd (some 3) v83 S83 fun v84 S84 =>
  kIad 3 v9 v13 S84 fun v85 S85 =>
  kLd (some 3) v85 S85 fun v86 S86 =>
  kIad 1 v10 v12 S86 fun v87 S87 =>
  kLd none v87 S87 fun v88 S88 =>
  kIdxS v88 v13 S88 fun v89 S89 =>
  kBin .eql v89 (.int .u8 121) S89 fun v90 S90 =>
  kCall C 12 [v81, v82, v84, v86] S90 fun v91 S91 =>
  kEqB true v91 v90 S91 fun v92 S92 =>
  kLd none v87 S92 fun u _ => cond (veqB u v88)
   (κ .normal (V18.mk v0 v1 v2 v3 v4 v5 v6 v7 v8 v9 v10 v11 v12 v13 v15 v53 v59 v92) S92) none)
def c3_22 : V18 → Value := fun v => (V18.casesOn v fun v0 v1 v2 v3 v4 v5 v6 v7 v8 v9 v10 v11 v12 v13 v15 v53 v59 v80 => v80)
def c3_23 (C : Callee) : Cd V18 := fun v S κ => (V18.casesOn v fun v0 v1 v2 v3 v4 v5 v6 v7 v8 v9 v10 v11 v12 v13 v15 v53 v59 v80 => 
  κ .normal (V18.mk (.bool false) v1 v2 v3 v4 v5 v6 v7 v8 v9 v10 v11 v12 v13 v15 v53 v59 v80) S)
def c3_24 (C : Callee) : Cd V18 := fun v S κ => (V18.casesOn v fun v0 v1 v2 v3 v4 v5 v6 v7 v8 v9 v10 v11 v12 v13 v15 v53 v59 v80 => 
  kBin .add v13 (.int .i64 1) S fun v81 S81 =>
  κ .normal (V18.mk v0 v1 v2 v3 v4 v5 v6 v7 v8 v9 v10 v11 v12 v81 v15 v53 v59 v80) S81)
def c3_25 (C : Callee) (n : Nat) : Cd V18 := seqK (seqK (c3_19 C) (condK c3_20 (skipK) (exitK 2))) (seqK (blockK 3 (seqK (c3_21 C) (condK c3_22 (seqK (c3_23 C) (retK)) (skipK)))) (c3_24 C))
def c3_26 (C : Callee) : Cd V18 := fun v S κ => (V18.casesOn v fun v0 v1 v2 v3 v4 v5 v6 v7 v8 v9 v10 v11 v12 v13 v15 v53 v59 v80 => 
  kBin .add v12 (.int .i64 1) S fun v81 S81 =>
  κ .normal (V18.mk v0 v1 v2 v3 v4 v5 v6 v7 v8 v9 v10 v11 v81 v13 v15 v53 v59 v80) S81)
def c3_27 (C : Callee) (n : Nat) : Cd V18 := seqK (seqK (c3_16 C) (condK c3_17 (skipK) (exitK 0))) (seqK (blockK 1 (seqK (c3_18 C) (blockK 2 (loopK n (c3_25 C n))))) (c3_26 C))
def c3_28 (C : Callee) : Cd V18 := fun v S κ => (V18.casesOn v fun v0 v1 v2 v3 v4 v5 v6 v7 v8 v9 v10 v11 v12 v13 v15 v53 v59 v80 => 
  kLd (some 3) v11 S fun v81 S81 =>
  kLd (some 3) v11 S81 fun v82 S82 =>
  kCall C 13 [v81, v82, (.string ⟨#[115, 116, 114, 105, 110, 103]⟩), (.string ⟨#[98, 105, 110, 97, 114, 121]⟩)] S82 fun v83 S83 =>
  bl v83 fun b => cond b
   (kLd (some 3) v11 S83 fun v84 S84 =>
   kLd (some 3) v11 S84 fun v85 S85 =>
   kCall C 13 [v84, v85, (.string ⟨#[98, 105, 110, 97, 114, 121]⟩), (.string ⟨#[115, 116, 114, 105, 110, 103]⟩)] S85 fun v86 S86 =>
   kUn .not v86 S86 fun v87 S87 =>
   bl v87 fun b => cond b
    (kLd (some 3) v11 S87 fun v88 S88 =>
    kLd (some 3) v11 S88 fun v89 S89 =>
    kCall C 13 [v88, v89, (.string ⟨#[109, 97, 112, 60, 105, 56, 44, 115, 116, 114, 105, 110, 103, 62]⟩), (.string ⟨#[109, 97, 112, 60, 105, 56, 44, 98, 105, 110, 97, 114, 121, 62]⟩)] S89 fun v90 S90 =>
    bl v90 fun b => cond b
     (kLd (some 3) v11 S90 fun v91 S91 =>
     kLd (some 3) v11 S91 fun v92 S92 =>
     kCall C 13 [v91, v92, (.string ⟨#[110, 111, 110, 101]⟩), (.string ⟨#[110, 111, 110, 101]⟩)] S92 fun v93 S93 =>
     kUn .not v93 S93 fun v94 S94 =>
     κ .normal (V18.mk v94 v1 v2 v3 v4 v5 v6 v7 v8 v9 v10 v11 v12 v13 v15 v53 v59 v80) S94)
     (κ .normal (V18.mk (.bool false) v1 v2 v3 v4 v5 v6 v7 v8 v9 v10 v11 v12 v13 v15 v53 v59 v80) S90))
    (κ .normal (V18.mk (.bool false) v1 v2 v3 v4 v5 v6 v7 v8 v9 v10 v11 v12 v13 v15 v53 v59 v80) S87))
   (κ .normal (V18.mk (.bool false) v1 v2 v3 v4 v5 v6 v7 v8 v9 v10 v11 v12 v13 v15 v53 v59 v80) S83))
/-- assayer/assayerlaw24.PairForms -/
def c3 (C : Callee) (n : Nat) : Cd V18 := seqK (c3_0 C) (seqK (seqK (c3_1 C) (condK c3_2 (seqK (c3_3 C) (retK)) (skipK))) (seqK (c3_4 C) (seqK (c3_5 C) (seqK (c3_6 C) (seqK (c3_7 C) (seqK (c3_8 C) (seqK (c3_9 C) (seqK (c3_10 C) (seqK (c3_11 C) (seqK (c3_12 C) (seqK (c3_13 C) (seqK (c3_14 C) (seqK (seqK (c3_15 C) (blockK 0 (loopK n (c3_27 C n)))) (seqK (c3_28 C) (retK)))))))))))))))
def r3 (v : V18) (S : AW) : R := (V18.casesOn v fun v0 v1 v2 v3 v4 v5 v6 v7 v8 v9 v10 v11 v12 v13 v15 v53 v59 v80 => some (v0, S))
def g3 (C : Callee) (n : Nat) (args : List Value) (S : AW) : R := c3 C n (V18.mk (argV args 0) (argV args 1) (argV args 2) (argV args 3) (argV args 4) (argV args 5) (argV args 6) (argV args 7) (argV args 8) (argV args 9) (argV args 10) (argV args 11) (argV args 12) (argV args 13) (argV args 15) (argV args 53) (argV args 59) (argV args 80)) S fun o v S => EX.casesOn o (r3 v S) (fun _ => none) (r3 v S)
/-! assayer/assayerlaw24.begun -/
def c10_0 (C : Callee) : Cd V3 := fun v S κ => (V3.casesOn v fun v0 v1 v2 => 
  κ .normal (V3.mk (.bool false) v1 v2) S)
def c10_1 (C : Callee) : Cd V3 := fun v S κ => (V3.casesOn v fun v0 v1 v2 => 
  kBuild [.int .i64 0, .int .i64 0, .string ⟨#[]⟩, .string ⟨#[]⟩, .bool false, .int .i64 0, .int .i64 0, .string ⟨#[]⟩, .slice none 0 0, .slice none 0 0] [(0, 1, (.int .i64 1)), (2, 1, (.string ⟨#[97, 46, 65]⟩))] S fun v3 S3 =>
  kLit 28 10 [.int .i64 0, .int .i64 0, .string ⟨#[]⟩, .string ⟨#[]⟩, .bool false, .int .i64 0, .int .i64 0, .string ⟨#[]⟩, .slice none 0 0, .slice none 0 0] 1 [(0, 10, v3)] S3 fun v4 S4 =>
  kBuild [.int .i64 0, .string ⟨#[]⟩, .slice none 0 0] [(0, 1, (.int .i64 4)), (1, 1, (.string ⟨#[97, 46, 65]⟩)), (2, 1, v4)] S4 fun v5 S5 =>
  kLit 32 3 [.int .i64 0, .string ⟨#[]⟩, .slice none 0 0] 1 [(0, 3, v5)] S5 fun v6 S6 =>
  kBuild [.slice none 0 0, .slice none 0 0, .slice none 0 0] [(0, 1, v6)] S6 fun v7 S7 =>
  kNew 38 3 [.slice none 0 0, .slice none 0 0, .slice none 0 0] S7 fun v8 S8 =>
  kSt 3 v8 v7 S8 fun v9 S9 =>
  κ .normal (V3.mk v0 v8 v2) S9)
def c10_2 (C : Callee) : Cd V3 := fun v S κ => (V3.casesOn v fun v0 v1 v2 => 
  kLd (some 3) v1 S fun v3 S3 =>
  kLd (some 3) v1 S3 fun v4 S4 =>
  kCall C 32 [v3, v4] S4 fun v5 S5 =>
  κ .normal (V3.mk v0 v1 v5) S5)
def c10_3 (C : Callee) : Cd V3 := fun v S κ => (V3.casesOn v fun v0 v1 v2 => 
  kLd (some 3) v1 S fun v3 S3 =>
  kLd (some 3) v1 S3 fun v4 S4 =>
  kCall C 13 [v3, v4, (.string ⟨#[97, 46, 65]⟩), (.string ⟨#[97, 46, 65]⟩)] S4 fun v5 S5 =>
  bl v5 fun b => cond b
   (kLd (some 3) v1 S5 fun v6 S6 =>
   kLd (some 3) v1 S6 fun v7 S7 =>
   kCall C 13 [v6, v7, (.string ⟨#[105, 56]⟩), (.string ⟨#[105, 49, 54]⟩)] S7 fun v8 S8 =>
   kUn .not v8 S8 fun v9 S9 =>
   bl v9 fun b => cond b
    (kLd (some 3) v1 S9 fun v10 S10 =>
    kLd (some 3) v1 S10 fun v11 S11 =>
    kFad 0 v1 S11 fun v12 S12 =>
    kLd none v12 S12 fun v13 S13 =>
    kIad 3 v13 (.int .i64 0) S13 fun v14 S14 =>
    kLd (some 3) v14 S14 fun v15 S15 =>
    kFad 0 v1 S15 fun v16 S16 =>
    kLd none v16 S16 fun v17 S17 =>
    kIad 3 v17 (.int .i64 0) S17 fun v18 S18 =>
    kLd (some 3) v18 S18 fun v19 S19 =>
    kCall C 12 [v10, v11, v15, v19] S19 fun v20 S20 =>
    bl v20 fun b => cond b
     (kO (lenMV S20 v2) S20 fun v21 S21 =>
     kBin .eql v21 (.int .i64 1) S21 fun v22 S22 =>
     bl v22 fun b => cond b
      (kBuild [.string ⟨#[]⟩, .string ⟨#[]⟩] [(0, 1, (.string ⟨#[97, 46, 65]⟩)), (1, 1, (.string ⟨#[97, 46, 65]⟩))] S22 fun v23 S23 =>
      kMlk (.agg [.str, .str]) (.bool false) false v2 v23 S23 fun v24 S24 =>
      κ .normal (V3.mk v24 v1 v2) S24)
      (κ .normal (V3.mk (.bool false) v1 v2) S22))
     (κ .normal (V3.mk (.bool false) v1 v2) S20))
    (κ .normal (V3.mk (.bool false) v1 v2) S9))
   (κ .normal (V3.mk (.bool false) v1 v2) S5))
/-- assayer/assayerlaw24.begun -/
def c10 (C : Callee) (n : Nat) : Cd V3 := seqK (c10_0 C) (seqK (c10_1 C) (seqK (c10_2 C) (seqK (c10_3 C) (retK))))
def r10 (v : V3) (S : AW) : R := (V3.casesOn v fun v0 v1 v2 => some (v0, S))
def g10 (C : Callee) (n : Nat) (args : List Value) (S : AW) : R := c10 C n (V3.mk (argV args 0) (argV args 1) (argV args 2)) S fun o v S => EX.casesOn o (r10 v S) (fun _ => none) (r10 v S)
/-! assayer/assayerlaw24.field -/
def c11_0 (C : Callee) : Cd V4 := fun v S κ => (V4.casesOn v fun v0 v1 v2 v6 => 
  kNew 28 10 [.int .i64 0, .int .i64 0, .string ⟨#[]⟩, .string ⟨#[]⟩, .bool false, .int .i64 0, .int .i64 0, .string ⟨#[]⟩, .slice none 0 0, .slice none 0 0] S fun v7 S7 =>
  κ .normal (V4.mk v0 v1 v2 v7) S7)
def c11_1 (C : Callee) : Cd V4 := fun v S κ => (V4.casesOn v fun v0 v1 v2 v6 => 
  kBuild [.int .i64 0, .int .i64 0, .string ⟨#[]⟩, .string ⟨#[]⟩, .bool false, .int .i64 0, .int .i64 0, .string ⟨#[]⟩, .slice none 0 0, .slice none 0 0] [(0, 1, v0), (1, 1, v1), (2, 1, v2)] S fun v7 S7 =>
  kSt 10 v6 v7 S7 fun v8 S8 =>
  κ .normal (V4.mk v0 v1 v2 v6) S8)
/-- assayer/assayerlaw24.field -/
def c11 (C : Callee) (n : Nat) : Cd V4 := seqK (c11_0 C) (seqK (c11_1 C) (retK))
def r11 (v : V4) (S : AW) : R := (V4.casesOn v fun v0 v1 v2 v6 => kLd (some 10) v6 S fun r6 _ => some (r6, S))
def g11 (C : Callee) (n : Nat) (args : List Value) (S : AW) : R := c11 C n (V4.mk (argV args 0) (argV args 1) (argV args 2) (argV args 6)) S fun o v S => EX.casesOn o (r11 v S) (fun _ => none) (r11 v S)
/-! assayer/pair.As -/
def c12_0 (C : Callee) : Cd V9 := fun v S κ => (V9.casesOn v fun v0 v1 v2 v3 v4 v5 v6 v7 v8 => 
  kBox 38 3 v0 S fun v9 S9 =>
  kBox 38 3 v1 S9 fun v10 S10 =>
  kBox 32 3 v2 S10 fun v11 S11 =>
  kBox 32 3 v3 S11 fun v12 S12 =>
  κ .normal (V9.mk v0 v1 v2 v3 v9 v10 v11 v12 (.bool false)) S12)
def c12_1 (C : Callee) : Cd V9 := fun v S κ => (V9.casesOn v fun v0 v1 v2 v3 v4 v5 v6 v7 v8 => 
  kLd (some 3) v4 S fun v9 S9 =>
  kLd (some 3) v5 S9 fun v10 S10 =>
  kLd (some 3) v6 S10 fun v11 S11 =>
  kLd (some 3) v7 S11 fun v12 S12 =>
  kLd (some 3) v6 S12 fun v13 S13 =>
  kLd (some 3) v7 S13 fun v14 S14 =>
  kCall C 33 [v9, v10, v11, v12] S14 fun v15 S15 =>
  kLd (some 3) v7 S15 fun u _ => cond (veqB u v14)
   (kLd (some 3) v6 S15 fun u _ => cond (veqB u v13)
    (kCall C 34 [v15, v13, v14, (.int .i64 1152921504606846976)] S15 fun v16 S16 =>
    κ .normal (V9.mk v0 v1 v2 v3 v4 v5 v6 v7 v16) S16) none) none)
/-- assayer/pair.As -/
def c12 (C : Callee) (n : Nat) : Cd V9 := seqK (c12_0 C) (seqK (c12_1 C) (retK))
def r12 (v : V9) (S : AW) : R := (V9.casesOn v fun v0 v1 v2 v3 v4 v5 v6 v7 v8 => some (v8, S))
def g12 (C : Callee) (n : Nat) (args : List Value) (S : AW) : R := c12 C n (V9.mk (argV args 0) (argV args 1) (argV args 2) (argV args 3) (argV args 4) (argV args 5) (argV args 6) (argV args 7) (argV args 8)) S fun o v S => EX.casesOn o (r12 v S) (fun _ => none) (r12 v S)
/-! assayer/pair.Reads -/
def c13_0 (C : Callee) : Cd V7 := fun v S κ => (V7.casesOn v fun v0 v1 v2 v3 v4 v5 v8 => 
  kBox 38 3 v0 S fun v9 S9 =>
  kBox 38 3 v1 S9 fun v10 S10 =>
  κ .normal (V7.mk v0 v1 v2 v3 v9 v10 (.bool false)) S10)
def c13_1 (C : Callee) : Cd V7 := fun v S κ => (V7.casesOn v fun v0 v1 v2 v3 v4 v5 v8 => 
  kLd (some 3) v4 S fun v9 S9 =>
  kCall C 35 [v9, v2] S9 fun v10 S10 =>
  bl v10 fun b => cond b
   (kLd (some 3) v5 S10 fun v11 S11 =>
   kCall C 35 [v11, v3] S11 fun v12 S12 =>
   bl v12 fun b => cond b
    (kLd (some 3) v4 S12 fun v13 S13 =>
    kLd (some 3) v5 S13 fun v14 S14 =>
    kCall C 36 [v13, v14, v2, v3] S14 fun v15 S15 =>
    kCall C 37 [v15, v2, v3, (.int .i64 1152921504606846976)] S15 fun v16 S16 =>
    κ .normal (V7.mk v0 v1 v2 v3 v4 v5 v16) S16)
    (κ .normal (V7.mk v0 v1 v2 v3 v4 v5 (.bool false)) S12))
   (κ .normal (V7.mk v0 v1 v2 v3 v4 v5 (.bool false)) S10))
/-- assayer/pair.Reads -/
def c13 (C : Callee) (n : Nat) : Cd V7 := seqK (c13_0 C) (seqK (c13_1 C) (retK))
def r13 (v : V7) (S : AW) : R := (V7.casesOn v fun v0 v1 v2 v3 v4 v5 v8 => some (v8, S))
def g13 (C : Callee) (n : Nat) (args : List Value) (S : AW) : R := c13 C n (V7.mk (argV args 0) (argV args 1) (argV args 2) (argV args 3) (argV args 4) (argV args 5) (argV args 8)) S fun o v S => EX.casesOn o (r13 v S) (fun _ => none) (r13 v S)
/-! assayer/pair.Table -/
def c32_0 (C : Callee) : Cd V22 := fun v S κ => (V22.casesOn v fun v0 v1 v2 v3 v4 v5 v7 v9 v10 v12 v17 v18 v19 v20 v24 v25 v26 v27 v45 v46 v47 v48 => 
  kBox 38 3 v0 S fun v49 S49 =>
  kBox 38 3 v1 S49 fun v50 S50 =>
  κ .normal (V22.mk v0 v1 v49 v50 (.map none) v5 v7 v9 v10 v12 v17 v18 v19 v20 v24 v25 v26 v27 v45 v46 v47 v48) S50)
def c32_1 (C : Callee) : Cd V22 := fun v S κ => (V22.casesOn v fun v0 v1 v2 v3 v4 v5 v7 v9 v10 v12 v17 v18 v19 v20 v24 v25 v26 v27 v45 v46 v47 v48 => 
  kLd (some 3) v2 S fun v49 S49 =>
  kLd (some 3) v3 S49 fun v50 S50 =>
  kCall C 64 [v49, v50] S50 fun v51 S51 =>
  κ .normal (V22.mk v0 v1 v2 v3 v4 v51 v7 v9 v10 v12 v17 v18 v19 v20 v24 v25 v26 v27 v45 v46 v47 v48) S51)
def c32_2 (C : Callee) : Cd V22 := fun v S κ => (V22.casesOn v fun v0 v1 v2 v3 v4 v5 v7 v9 v10 v12 v17 v18 v19 v20 v24 v25 v26 v27 v45 v46 v47 v48 => 
  kFad 0 v2 S fun v49 S49 =>
  kLd none v49 S49 fun v50 S50 =>
  kLen false v50 S50 fun v51 S51 =>
  κ .normal (V22.mk v0 v1 v2 v3 v4 v5 v7 v9 v10 v12 v50 v51 (.int .i64 0) v20 v24 v25 v26 v27 v45 v46 v47 v48) S51)
def c32_3 (C : Callee) : Cd V22 := fun v S κ => (V22.casesOn v fun v0 v1 v2 v3 v4 v5 v7 v9 v10 v12 v17 v18 v19 v20 v24 v25 v26 v27 v45 v46 v47 v48 => 
  kBin .lss v19 v18 S fun v49 S49 =>
  κ .normal (V22.mk v0 v1 v2 v3 v4 v5 v7 v9 v10 v12 v17 v18 v19 v49 v24 v25 v26 v27 v45 v46 v47 v48) S49)
def c32_4 : V22 → Value := fun v => (V22.casesOn v fun v0 v1 v2 v3 v4 v5 v7 v9 v10 v12 v17 v18 v19 v20 v24 v25 v26 v27 v45 v46 v47 v48 => v20)
def c32_5 (C : Callee) : Cd V22 := fun v S κ => (V22.casesOn v fun v0 v1 v2 v3 v4 v5 v7 v9 v10 v12 v17 v18 v19 v20 v24 v25 v26 v27 v45 v46 v47 v48 => 
  kIad 3 v17 v19 S fun v49 S49 =>
  kLd (some 3) v49 S49 fun v50 S50 =>
  kNew 32 3 [.int .i64 0, .string ⟨#[]⟩, .slice none 0 0] S50 fun v51 S51 =>
  kSt 3 v51 v50 S51 fun v52 S52 =>
  κ .normal (V22.mk v0 v1 v2 v3 v4 v5 v51 v9 v10 v12 v17 v18 v19 v20 v24 v25 v26 v27 v45 v46 v47 v48) S52)
def c32_6 (C : Callee) : Cd V22 := fun v S κ => (V22.casesOn v fun v0 v1 v2 v3 v4 v5 v7 v9 v10 v12 v17 v18 v19 v20 v24 v25 v26 v27 v45 v46 v47 v48 => 
  kFad 0 v3 S fun v49 S49 =>
  kLd none v49 S49 fun v50 S50 =>
  kLen false v50 S50 fun v51 S51 =>
  κ .normal (V22.mk v0 v1 v2 v3 v4 v5 v7 v9 v10 v12 v17 v18 v19 v20 v50 v51 (.int .i64 0) v27 v45 v46 v47 v48) S51)
def c32_7 (C : Callee) : Cd V22 := fun v S κ => (V22.casesOn v fun v0 v1 v2 v3 v4 v5 v7 v9 v10 v12 v17 v18 v19 v20 v24 v25 v26 v27 v45 v46 v47 v48 => 
  kBin .lss v26 v25 S fun v49 S49 =>
  κ .normal (V22.mk v0 v1 v2 v3 v4 v5 v7 v9 v10 v12 v17 v18 v19 v20 v24 v25 v26 v49 v45 v46 v47 v48) S49)
def c32_8 : V22 → Value := fun v => (V22.casesOn v fun v0 v1 v2 v3 v4 v5 v7 v9 v10 v12 v17 v18 v19 v20 v24 v25 v26 v27 v45 v46 v47 v48 => v27)
def c32_9 (C : Callee) : Cd V22 := fun v S κ => (V22.casesOn v fun v0 v1 v2 v3 v4 v5 v7 v9 v10 v12 v17 v18 v19 v20 v24 v25 v26 v27 v45 v46 v47 v48 => 
  kIad 3 v24 v26 S fun v49 S49 =>
  kLd (some 3) v49 S49 fun v50 S50 =>
  kNew 32 3 [.int .i64 0, .string ⟨#[]⟩, .slice none 0 0] S50 fun v51 S51 =>
  kSt 3 v51 v50 S51 fun v52 S52 =>
  κ .normal (V22.mk v0 v1 v2 v3 v4 v5 v7 v51 v10 v12 v17 v18 v19 v20 v24 v25 v26 v27 v45 v46 v47 v48) S52)
def c32_10 (C : Callee) : Cd V22 := fun v S κ => (V22.casesOn v fun v0 v1 v2 v3 v4 v5 v7 v9 v10 v12 v17 v18 v19 v20 v24 v25 v26 v27 v45 v46 v47 v48 => 
  kFad 1 v7 S fun v49 S49 =>
  kLd none v49 S49 fun v50 S50 =>
  kFad 1 v9 S50 fun v51 S51 =>
  kLd none v51 S51 fun v52 S52 =>
  kBuild [.string ⟨#[]⟩, .string ⟨#[]⟩] [(0, 1, v50), (1, 1, v52)] S52 fun v53 S53 =>
  kCall C 65 [v5, v53] S53 fun v54 S54 =>
  κ .normal (V22.mk v0 v1 v2 v3 v4 v5 v7 v9 v10 v12 v17 v18 v19 v20 v24 v25 v26 v27 v45 v46 v47 v48) S54)
def c32_11 (C : Callee) : Cd V22 := fun v S κ => (V22.casesOn v fun v0 v1 v2 v3 v4 v5 v7 v9 v10 v12 v17 v18 v19 v20 v24 v25 v26 v27 v45 v46 v47 v48 => 
  kBin .add v26 (.int .i64 1) S fun v49 S49 =>
  κ .normal (V22.mk v0 v1 v2 v3 v4 v5 v7 v9 v10 v12 v17 v18 v19 v20 v24 v25 v49 v27 v45 v46 v47 v48) S49)
def c32_12 (C : Callee) (n : Nat) : Cd V22 := seqK (c32_7 C) (seqK (condK c32_8 (skipK) (exitK 2)) (seqK (blockK 3 (seqK (c32_9 C) (c32_10 C))) (c32_11 C)))
def c32_13 (C : Callee) : Cd V22 := fun v S κ => (V22.casesOn v fun v0 v1 v2 v3 v4 v5 v7 v9 v10 v12 v17 v18 v19 v20 v24 v25 v26 v27 v45 v46 v47 v48 => 
  kBin .add v19 (.int .i64 1) S fun v49 S49 =>
  κ .normal (V22.mk v0 v1 v2 v3 v4 v5 v7 v9 v10 v12 v17 v18 v49 v20 v24 v25 v26 v27 v45 v46 v47 v48) S49)
def c32_14 (C : Callee) (n : Nat) : Cd V22 := seqK (c32_3 C) (seqK (condK c32_4 (skipK) (exitK 0)) (seqK (blockK 1 (seqK (c32_5 C) (seqK (c32_6 C) (blockK 2 (loopK n (c32_12 C n)))))) (c32_13 C)))
def c32_15 (C : Callee) : Cd V22 := fun v S κ => (V22.casesOn v fun v0 v1 v2 v3 v4 v5 v7 v9 v10 v12 v17 v18 v19 v20 v24 v25 v26 v27 v45 v46 v47 v48 => 
  kCall C 66 [v5] S fun v49 S49 =>
  κ .normal (V22.mk v0 v1 v2 v3 v4 v5 v7 v9 v10 v12 v17 v18 v19 v20 v24 v25 v26 v27 v45 v46 v47 v48) S49)
def c32_16 (C : Callee) : Cd V22 := fun v S κ => (V22.casesOn v fun v0 v1 v2 v3 v4 v5 v7 v9 v10 v12 v17 v18 v19 v20 v24 v25 v26 v27 v45 v46 v47 v48 => 
  kMkm none S fun v49 S49 =>
  κ .normal (V22.mk v0 v1 v2 v3 v4 v5 v7 v9 v49 v12 v17 v18 v19 v20 v24 v25 v26 v27 v45 v46 v47 v48) S49)
def c32_17 (C : Callee) : Cd V22 := fun v S κ => (V22.casesOn v fun v0 v1 v2 v3 v4 v5 v7 v9 v10 v12 v17 v18 v19 v20 v24 v25 v26 v27 v45 v46 v47 v48 => 
  kNilc v5 S fun v49 S49 =>
  kFad 8 v49 S49 fun v50 S50 =>
  kLd none v50 S50 fun v51 S51 =>
  kLen false v51 S51 fun v52 S52 =>
  κ .normal (V22.mk v0 v1 v2 v3 v4 v5 v7 v9 v10 v12 v17 v18 v19 v20 v24 v25 v26 v27 v51 v52 (.int .i64 0) v48) S52)
def c32_18 (C : Callee) : Cd V22 := fun v S κ => (V22.casesOn v fun v0 v1 v2 v3 v4 v5 v7 v9 v10 v12 v17 v18 v19 v20 v24 v25 v26 v27 v45 v46 v47 v48 => 
  kBin .lss v47 v46 S fun v49 S49 =>
  κ .normal (V22.mk v0 v1 v2 v3 v4 v5 v7 v9 v10 v12 v17 v18 v19 v20 v24 v25 v26 v27 v45 v46 v47 v49) S49)
def c32_19 : V22 → Value := fun v => (V22.casesOn v fun v0 v1 v2 v3 v4 v5 v7 v9 v10 v12 v17 v18 v19 v20 v24 v25 v26 v27 v45 v46 v47 v48 => v48)
def c32_20 (C : Callee) : Cd V22 := fun v S κ => (V22.casesOn v fun v0 v1 v2 v3 v4 v5 v7 v9 v10 v12 v17 v18 v19 v20 v24 v25 v26 v27 v45 v46 v47 v48 => 
  kIad 2 v45 v47 S fun v49 S49 =>
  kLd (some 2) v49 S49 fun v50 S50 =>
  kNew 98 2 [.string ⟨#[]⟩, .string ⟨#[]⟩] S50 fun v51 S51 =>
  kSt 2 v51 v50 S51 fun v52 S52 =>
  κ .normal (V22.mk v0 v1 v2 v3 v4 v5 v7 v9 v10 v51 v17 v18 v19 v20 v24 v25 v26 v27 v45 v46 v47 v48) S52)
def c32_21 (C : Callee) : Cd V22 := fun v S κ => (V22.casesOn v fun v0 v1 v2 v3 v4 v5 v7 v9 v10 v12 v17 v18 v19 v20 v24 v25 v26 v27 v45 v46 v47 v48 => 
  kLd (some 2) v12 S fun v49 S49 =>
  kNilc v5 S49 fun v50 S50 =>
  kFad 6 v50 S50 fun v51 S51 =>
  kLd none v51 S51 fun v52 S52 =>
  kLd (some 2) v12 S52 fun v53 S53 =>
  kMlk (.agg [.str, .str]) (.int .i64 0) false v52 v53 S53 fun v54 S54 =>
  kBin .eql v54 (.int .i64 0) S54 fun v55 S55 =>
  kMup (.agg [.str, .str]) v10 v49 v55 S55 fun v56 S56 =>
  κ .normal (V22.mk v0 v1 v2 v3 v4 v5 v7 v9 v10 v12 v17 v18 v19 v20 v24 v25 v26 v27 v45 v46 v47 v48) S56)
def c32_22 (C : Callee) : Cd V22 := fun v S κ => (V22.casesOn v fun v0 v1 v2 v3 v4 v5 v7 v9 v10 v12 v17 v18 v19 v20 v24 v25 v26 v27 v45 v46 v47 v48 => 
  kBin .add v47 (.int .i64 1) S fun v49 S49 =>
  κ .normal (V22.mk v0 v1 v2 v3 v4 v5 v7 v9 v10 v12 v17 v18 v19 v20 v24 v25 v26 v27 v45 v46 v49 v48) S49)
def c32_23 (C : Callee) (n : Nat) : Cd V22 := seqK (c32_18 C) (seqK (condK c32_19 (skipK) (exitK 4)) (seqK (blockK 5 (seqK (c32_20 C) (c32_21 C))) (c32_22 C)))
def c32_24 (C : Callee) : Cd V22 := fun v S κ => (V22.casesOn v fun v0 v1 v2 v3 v4 v5 v7 v9 v10 v12 v17 v18 v19 v20 v24 v25 v26 v27 v45 v46 v47 v48 => 
  κ .normal (V22.mk v0 v1 v2 v3 v10 v5 v7 v9 v10 v12 v17 v18 v19 v20 v24 v25 v26 v27 v45 v46 v47 v48) S)
/-- assayer/pair.Table -/
def c32 (C : Callee) (n : Nat) : Cd V22 := seqK (c32_0 C) (seqK (c32_1 C) (seqK (seqK (c32_2 C) (blockK 0 (loopK n (c32_14 C n)))) (seqK (c32_15 C) (seqK (c32_16 C) (seqK (seqK (c32_17 C) (blockK 4 (loopK n (c32_23 C n)))) (seqK (c32_24 C) (retK)))))))
def r32 (v : V22) (S : AW) : R := (V22.casesOn v fun v0 v1 v2 v3 v4 v5 v7 v9 v10 v12 v17 v18 v19 v20 v24 v25 v26 v27 v45 v46 v47 v48 => some (v4, S))
def g32 (C : Callee) (n : Nat) (args : List Value) (S : AW) : R := c32 C n (V22.mk (argV args 0) (argV args 1) (argV args 2) (argV args 3) (argV args 4) (argV args 5) (argV args 7) (argV args 9) (argV args 10) (argV args 12) (argV args 17) (argV args 18) (argV args 19) (argV args 20) (argV args 24) (argV args 25) (argV args 26) (argV args 27) (argV args 45) (argV args 46) (argV args 47) (argV args 48)) S fun o v S => EX.casesOn o (r32 v S) (fun _ => none) (r32 v S)
/-! assayer/pair.AskedAs -/
def c33_0 (C : Callee) : Cd V10 := fun v S κ => (V10.casesOn v fun v0 v1 v2 v3 v4 v5 v6 v7 v8 v9 => 
  kBox 38 3 v0 S fun v10 S10 =>
  kBox 38 3 v1 S10 fun v11 S11 =>
  kBox 32 3 v2 S11 fun v12 S12 =>
  kBox 32 3 v3 S12 fun v13 S13 =>
  κ .normal (V10.mk v0 v1 v2 v3 v10 v11 v12 v13 (.pointer none) v9) S13)
def c33_1 (C : Callee) : Cd V10 := fun v S κ => (V10.casesOn v fun v0 v1 v2 v3 v4 v5 v6 v7 v8 v9 => 
  kLd (some 3) v4 S fun v10 S10 =>
  kLd (some 3) v5 S10 fun v11 S11 =>
  kCall C 64 [v10, v11] S11 fun v12 S12 =>
  κ .normal (V10.mk v0 v1 v2 v3 v4 v5 v6 v7 v8 v12) S12)
def c33_2 (C : Callee) : Cd V10 := fun v S κ => (V10.casesOn v fun v0 v1 v2 v3 v4 v5 v6 v7 v8 v9 => 
  kLd (some 3) v6 S fun v10 S10 =>
  kLd (some 3) v7 S10 fun v11 S11 =>
  kCall C 67 [v9, v10, v11] S11 fun v12 S12 =>
  κ .normal (V10.mk v0 v1 v2 v3 v4 v5 v6 v7 v8 v9) S12)
def c33_3 (C : Callee) : Cd V10 := fun v S κ => (V10.casesOn v fun v0 v1 v2 v3 v4 v5 v6 v7 v8 v9 => 
  kCall C 66 [v9] S fun v10 S10 =>
  κ .normal (V10.mk v0 v1 v2 v3 v4 v5 v6 v7 v8 v9) S10)
def c33_4 (C : Callee) : Cd V10 := fun v S κ => (V10.casesOn v fun v0 v1 v2 v3 v4 v5 v6 v7 v8 v9 => 
  κ .normal (V10.mk v0 v1 v2 v3 v4 v5 v6 v7 v9 v9) S)
/-- assayer/pair.AskedAs -/
def c33 (C : Callee) (n : Nat) : Cd V10 := seqK (c33_0 C) (seqK (c33_1 C) (seqK (c33_2 C) (seqK (c33_3 C) (seqK (c33_4 C) (retK)))))
def r33 (v : V10) (S : AW) : R := (V10.casesOn v fun v0 v1 v2 v3 v4 v5 v6 v7 v8 v9 => some (v8, S))
def g33 (C : Callee) (n : Nat) (args : List Value) (S : AW) : R := c33 C n (V10.mk (argV args 0) (argV args 1) (argV args 2) (argV args 3) (argV args 4) (argV args 5) (argV args 6) (argV args 7) (argV args 8) (argV args 9)) S fun o v S => EX.casesOn o (r33 v S) (fun _ => none) (r33 v S)
/-! (*assayer/pair.Solver).Structs -/
def c34_0 (C : Callee) : Cd V15 := fun v S κ => (V15.casesOn v fun v0 v1 v2 v3 v5 v6 v8 v10 v11 v12 v14 v15 v16 v17 v37 => 
  kBox 32 3 v1 S fun v38 S38 =>
  kBox 32 3 v2 S38 fun v39 S39 =>
  κ .normal (V15.mk v0 v1 v2 v3 v38 v39 (.bool false) v10 v11 v12 v14 v15 v16 v17 v37) S39)
def c34_1 (C : Callee) : Cd V15 := fun v S κ => (V15.casesOn v fun v0 v1 v2 v3 v5 v6 v8 v10 v11 v12 v14 v15 v16 v17 v37 => 
  kFad 2 v5 S fun v38 S38 =>
  kLd none v38 S38 fun v39 S39 =>
  kLen false v39 S39 fun v40 S40 =>
  κ .normal (V15.mk v0 v1 v2 v3 v5 v6 v8 v10 v11 v12 v39 v40 (.int .i64 0) v17 v37) S40)
def c34_2 (C : Callee) : Cd V15 := fun v S κ => (V15.casesOn v fun v0 v1 v2 v3 v5 v6 v8 v10 v11 v12 v14 v15 v16 v17 v37 => 
  kBin .lss v16 v15 S fun v38 S38 =>
  κ .normal (V15.mk v0 v1 v2 v3 v5 v6 v8 v10 v11 v12 v14 v15 v16 v38 v37) S38)
def c34_3 : V15 → Value := fun v => (V15.casesOn v fun v0 v1 v2 v3 v5 v6 v8 v10 v11 v12 v14 v15 v16 v17 v37 => v17)
def c34_4 (C : Callee) : Cd V15 := fun v S κ => (V15.casesOn v fun v0 v1 v2 v3 v5 v6 v8 v10 v11 v12 v14 v15 v16 v17 v37 => 
  kIad 10 v14 v16 S fun v38 S38 =>
  kLd (some 10) v38 S38 fun v39 S39 =>
  kNew 28 10 [.int .i64 0, .int .i64 0, .string ⟨#[]⟩, .string ⟨#[]⟩, .bool false, .int .i64 0, .int .i64 0, .string ⟨#[]⟩, .slice none 0 0, .slice none 0 0] S39 fun v40 S40 =>
  kSt 10 v40 v39 S40 fun v41 S41 =>
  κ .normal (V15.mk v0 v1 v2 v3 v5 v6 v8 v40 v11 v12 v14 v15 v16 v17 v37) S41)
def c34_5 (C : Callee) : Cd V15 := fun v S κ => (V15.casesOn v fun v0 v1 v2 v3 v5 v6 v8 v10 v11 v12 v14 v15 v16 v17 v37 => 
  kLd (some 3) v6 S fun v38 S38 =>
  kFad 0 v10 S38 fun v39 S39 =>
  kLd none v39 S39 fun v40 S40 =>
  kCall C 68 [v38, v40] S40 fun v41 S41 =>
  kExt 0 v41 S41 fun v42 S42 =>
  kExt 1 v41 S42 fun v43 S43 =>
  kNew 28 10 [.int .i64 0, .int .i64 0, .string ⟨#[]⟩, .string ⟨#[]⟩, .bool false, .int .i64 0, .int .i64 0, .string ⟨#[]⟩, .slice none 0 0, .slice none 0 0] S43 fun v44 S44 =>
  kSt 10 v44 v42 S44 fun v45 S45 =>
  κ .normal (V15.mk v0 v1 v2 v3 v5 v6 v8 v10 v44 v43 v14 v15 v16 v17 v37) S45)
def c34_6 (C : Callee) : Cd V15 := fun v S κ => (V15.casesOn v fun v0 v1 v2 v3 v5 v6 v8 v10 v11 v12 v14 v15 v16 v17 v37 => 
  bl v12 fun b => cond b
   (kFad 2 v10 S fun v38 S38 =>
   kLd none v38 S38 fun v39 S39 =>
   kFad 2 v11 S39 fun v40 S40 =>
   kLd none v40 S40 fun v41 S41 =>
   kCall C 37 [v0, v39, v41, v3] S41 fun v42 S42 =>
   kUn .not v42 S42 fun v43 S43 =>
   κ .normal (V15.mk v0 v1 v2 v3 v5 v6 v8 v10 v11 v12 v14 v15 v16 v17 v43) S43)
   (κ .normal (V15.mk v0 v1 v2 v3 v5 v6 v8 v10 v11 v12 v14 v15 v16 v17 (.bool false)) S))
def c34_7 : V15 → Value := fun v => (V15.casesOn v fun v0 v1 v2 v3 v5 v6 v8 v10 v11 v12 v14 v15 v16 v17 v37 => v37)
def c34_8 (C : Callee) : Cd V15 := fun v S κ => (V15.casesOn v fun v0 v1 v2 v3 v5 v6 v8 v10 v11 v12 v14 v15 v16 v17 v37 => 
  κ .normal (V15.mk v0 v1 v2 v3 v5 v6 (.bool false) v10 v11 v12 v14 v15 v16 v17 v37) S)
def c34_9 (C : Callee) : Cd V15 := fun v S κ => (V15.casesOn v fun v0 v1 v2 v3 v5 v6 v8 v10 v11 v12 v14 v15 v16 v17 v37 => 
  kBin .add v16 (.int .i64 1) S fun v38 S38 =>
  κ .normal (V15.mk v0 v1 v2 v3 v5 v6 v8 v10 v11 v12 v14 v15 v38 v17 v37) S38)
def c34_10 (C : Callee) (n : Nat) : Cd V15 := seqK (c34_2 C) (seqK (condK c34_3 (skipK) (exitK 0)) (seqK (blockK 1 (seqK (c34_4 C) (seqK (c34_5 C) (seqK (c34_6 C) (condK c34_7 (seqK (c34_8 C) (retK)) (skipK)))))) (c34_9 C)))
def c34_11 (C : Callee) : Cd V15 := fun v S κ => (V15.casesOn v fun v0 v1 v2 v3 v5 v6 v8 v10 v11 v12 v14 v15 v16 v17 v37 => 
  kLd (some 3) v5 S fun v38 S38 =>
  kLd (some 3) v6 S38 fun v39 S39 =>
  kCall C 69 [v38, v39] S39 fun v40 S40 =>
  κ .normal (V15.mk v0 v1 v2 v3 v5 v6 v40 v10 v11 v12 v14 v15 v16 v17 v37) S40)
/-- (*assayer/pair.Solver).Structs -/
def c34 (C : Callee) (n : Nat) : Cd V15 := seqK (c34_0 C) (seqK (seqK (c34_1 C) (blockK 0 (loopK n (c34_10 C n)))) (seqK (c34_11 C) (retK)))
def r34 (v : V15) (S : AW) : R := (V15.casesOn v fun v0 v1 v2 v3 v5 v6 v8 v10 v11 v12 v14 v15 v16 v17 v37 => some (v8, S))
def g34 (C : Callee) (n : Nat) (args : List Value) (S : AW) : R := c34 C n (V15.mk (argV args 0) (argV args 1) (argV args 2) (argV args 3) (argV args 5) (argV args 6) (argV args 8) (argV args 10) (argV args 11) (argV args 12) (argV args 14) (argV args 15) (argV args 16) (argV args 17) (argV args 37)) S fun o v S => EX.casesOn o (r34 v S) (fun _ => none) (r34 v S)
/-! assayer/pair.known -/
def c35_0 (C : Callee) : Cd V4 := fun v S κ => (V4.casesOn v fun v0 v1 v2 v4 => 
  kBox 38 3 v0 S fun v5 S5 =>
  κ .normal (V4.mk v0 v1 v5 (.bool false)) S5)
def c35_1 (C : Callee) : Cd V4 := fun v S κ => (V4.casesOn v fun v0 v1 v2 v4 => 
  kCall C 70 [v1] S fun v5 S5 =>
  bl v5 fun b => cond b
   (kCall C 72 [v1] S5 fun v6 S6 =>
   kVal (.func (.func 73) #[] #[v2]) S6 fun v7 S7 =>
   kCall C 71 [v6, v7] S7 fun v8 S8 =>
   kUn .not v8 S8 fun v9 S9 =>
   κ .normal (V4.mk v0 v1 v2 v9) S9)
   (κ .normal (V4.mk v0 v1 v2 (.bool false)) S5))
/-- assayer/pair.known -/
def c35 (C : Callee) (n : Nat) : Cd V4 := seqK (c35_0 C) (seqK (c35_1 C) (retK))
def r35 (v : V4) (S : AW) : R := (V4.casesOn v fun v0 v1 v2 v4 => some (v4, S))
def g35 (C : Callee) (n : Nat) (args : List Value) (S : AW) : R := c35 C n (V4.mk (argV args 0) (argV args 1) (argV args 2) (argV args 4)) S fun o v S => EX.casesOn o (r35 v S) (fun _ => none) (r35 v S)
/-! assayer/pair.Asked -/
def c36_0 (C : Callee) : Cd V8 := fun v S κ => (V8.casesOn v fun v0 v1 v2 v3 v4 v5 v8 v9 => 
  kBox 38 3 v0 S fun v10 S10 =>
  kBox 38 3 v1 S10 fun v11 S11 =>
  κ .normal (V8.mk v0 v1 v2 v3 v10 v11 (.pointer none) v9) S11)
def c36_1 (C : Callee) : Cd V8 := fun v S κ => (V8.casesOn v fun v0 v1 v2 v3 v4 v5 v8 v9 => 
  kLd (some 3) v4 S fun v10 S10 =>
  kLd (some 3) v5 S10 fun v11 S11 =>
  kCall C 64 [v10, v11] S11 fun v12 S12 =>
  κ .normal (V8.mk v0 v1 v2 v3 v4 v5 v8 v12) S12)
def c36_2 (C : Callee) : Cd V8 := fun v S κ => (V8.casesOn v fun v0 v1 v2 v3 v4 v5 v8 v9 => 
  kCall C 75 [v9, v2, v3] S fun v10 S10 =>
  κ .normal (V8.mk v0 v1 v2 v3 v4 v5 v8 v9) S10)
def c36_3 (C : Callee) : Cd V8 := fun v S κ => (V8.casesOn v fun v0 v1 v2 v3 v4 v5 v8 v9 => 
  kCall C 66 [v9] S fun v10 S10 =>
  κ .normal (V8.mk v0 v1 v2 v3 v4 v5 v8 v9) S10)
def c36_4 (C : Callee) : Cd V8 := fun v S κ => (V8.casesOn v fun v0 v1 v2 v3 v4 v5 v8 v9 => 
  κ .normal (V8.mk v0 v1 v2 v3 v4 v5 v9 v9) S)
/-- assayer/pair.Asked -/
def c36 (C : Callee) (n : Nat) : Cd V8 := seqK (c36_0 C) (seqK (c36_1 C) (seqK (c36_2 C) (seqK (c36_3 C) (seqK (c36_4 C) (retK)))))
def r36 (v : V8) (S : AW) : R := (V8.casesOn v fun v0 v1 v2 v3 v4 v5 v8 v9 => some (v8, S))
def g36 (C : Callee) (n : Nat) (args : List Value) (S : AW) : R := c36 C n (V8.mk (argV args 0) (argV args 1) (argV args 2) (argV args 3) (argV args 4) (argV args 5) (argV args 8) (argV args 9)) S fun o v S => EX.casesOn o (r36 v S) (fun _ => none) (r36 v S)
/-! (*assayer/pair.Solver).Types -/
def c37_0 (C : Callee) : Cd V22 := fun v S κ => (V22.casesOn v fun v0 v1 v2 v3 v8 v9 v10 v12 v13 v14 v17 v18 v19 v21 v50 v57 v70 v74 v75 v83 v97 v103 => 
  κ .normal (V22.mk v0 v1 v2 v3 (.bool false) v9 v10 v12 v13 v14 v17 v18 v19 v21 v50 v57 v70 v74 v75 v83 v97 v103) S)
def c37_1 (C : Callee) : Cd V22 := fun v S κ => (V22.casesOn v fun v0 v1 v2 v3 v8 v9 v10 v12 v13 v14 v17 v18 v19 v21 v50 v57 v70 v74 v75 v83 v97 v103 => 
  kNilc v0 S fun v104 S104 =>
  kFad 0 v104 S104 fun v105 S105 =>
  kLd (some 3) v105 S105 fun v106 S106 =>
  kNilc v0 S106 fun v107 S107 =>
  kFad 3 v107 S107 fun v108 S108 =>
  kLd (some 3) v108 S108 fun v109 S109 =>
  kCall C 74 [v106, v1] S109 fun v110 S110 =>
  kLd (some 3) v108 S110 fun u _ => cond (veqB u v109)
   (kCall C 74 [v109, v2] S110 fun v111 S111 =>
   κ .normal (V22.mk v0 v1 v2 v3 v8 v110 v111 v12 v13 v14 v17 v18 v19 v21 v50 v57 v70 v74 v75 v83 v97 v103) S111) none)
def c37_2 (C : Callee) : Cd V22 := fun v S κ => (V22.casesOn v fun v0 v1 v2 v3 v8 v9 v10 v12 v13 v14 v17 v18 v19 v21 v50 v57 v70 v74 v75 v83 v97 v103 => 
  kCall C 76 [v1] S fun v104 S104 =>
  kExt 0 v104 S104 fun v105 S105 =>
  kExt 1 v104 S105 fun v106 S106 =>
  kExt 2 v104 S106 fun v107 S107 =>
  kExt 3 v104 S107 fun v108 S108 =>
  kExt 4 v104 S108 fun v109 S109 =>
  κ .normal (V22.mk v0 v1 v2 v3 v8 v9 v10 v106 v107 v108 v17 v18 v19 v21 v50 v57 v70 v74 v75 v83 v97 v103) S109)
def c37_3 (C : Callee) : Cd V22 := fun v S κ => (V22.casesOn v fun v0 v1 v2 v3 v8 v9 v10 v12 v13 v14 v17 v18 v19 v21 v50 v57 v70 v74 v75 v83 v97 v103 => 
  kCall C 76 [v2] S fun v104 S104 =>
  kExt 0 v104 S104 fun v105 S105 =>
  kExt 1 v104 S105 fun v106 S106 =>
  kExt 2 v104 S106 fun v107 S107 =>
  kExt 3 v104 S107 fun v108 S108 =>
  kExt 4 v104 S108 fun v109 S109 =>
  κ .normal (V22.mk v0 v1 v2 v3 v8 v9 v10 v12 v13 v14 v106 v107 v108 v21 v50 v57 v70 v74 v75 v83 v97 v103) S109)
def c37_4 (C : Callee) : Cd V22 := fun v S κ => (V22.casesOn v fun v0 v1 v2 v3 v8 v9 v10 v12 v13 v14 v17 v18 v19 v21 v50 v57 v70 v74 v75 v83 v97 v103 => 
  kBin .eql v9 (.int .i64 0) S fun v104 S104 =>
  bl v104 fun b => cond b
   (κ .normal (V22.mk v0 v1 v2 v3 v8 v9 v10 v12 v13 v14 v17 v18 v19 v21 (.bool true) v57 v70 v74 v75 v83 v97 v103) S104)
   (kBin .eql v10 (.int .i64 0) S104 fun v105 S105 =>
   κ .normal (V22.mk v0 v1 v2 v3 v8 v9 v10 v12 v13 v14 v17 v18 v19 v21 v105 v57 v70 v74 v75 v83 v97 v103) S105))
def c37_5 : V22 → Value := fun v => (V22.casesOn v fun v0 v1 v2 v3 v8 v9 v10 v12 v13 v14 v17 v18 v19 v21 v50 v57 v70 v74 v75 v83 v97 v103 => v50)
def c37_6 (C : Callee) : Cd V22 := fun v S κ => (V22.casesOn v fun v0 v1 v2 v3 v8 v9 v10 v12 v13 v14 v17 v18 v19 v21 v50 v57 v70 v74 v75 v83 v97 v103 => 
  κ .normal (V22.mk v0 v1 v2 v3 (.bool false) v9 v10 v12 v13 v14 v17 v18 v19 v21 v50 v57 v70 v74 v75 v83 v97 v103) S)
def c37_7 (C : Callee) : Cd V22 := fun v S κ => (V22.casesOn v fun v0 v1 v2 v3 v8 v9 v10 v12 v13 v14 v17 v18 v19 v21 v50 v57 v70 v74 v75 v83 v97 v103 => 
  kBin .eql v9 (.int .i64 17) S fun v104 S104 =>
  bl v104 fun b => cond b
   (kBin .eql v10 (.int .i64 8) S104 fun v105 S105 =>
   κ .normal (V22.mk v0 v1 v2 v3 v8 v9 v10 v12 v13 v14 v17 v18 v19 v21 v50 v105 v70 v74 v75 v83 v97 v103) S105)
   (κ .normal (V22.mk v0 v1 v2 v3 v8 v9 v10 v12 v13 v14 v17 v18 v19 v21 v50 (.bool false) v70 v74 v75 v83 v97 v103) S104))
def c37_8 : V22 → Value := fun v => (V22.casesOn v fun v0 v1 v2 v3 v8 v9 v10 v12 v13 v14 v17 v18 v19 v21 v50 v57 v70 v74 v75 v83 v97 v103 => v57)
def c37_9 (C : Callee) : Cd V22 := fun v S κ => (V22.casesOn v fun v0 v1 v2 v3 v8 v9 v10 v12 v13 v14 v17 v18 v19 v21 v50 v57 v70 v74 v75 v83 v97 v103 => 
  kBin .eql v9 (.int .i64 11) S fun v104 S104 =>
  bl v104 fun b => cond b
   (kBin .eql v10 (.int .i64 16) S104 fun v105 S105 =>
   κ .normal (V22.mk v0 v1 v2 v3 v8 v9 v10 v12 v13 v14 v17 v18 v19 v21 v50 v105 v70 v74 v75 v83 v97 v103) S105)
   (κ .normal (V22.mk v0 v1 v2 v3 v8 v9 v10 v12 v13 v14 v17 v18 v19 v21 v50 (.bool false) v70 v74 v75 v83 v97 v103) S104))
def c37_10 : V22 → Value := fun v => (V22.casesOn v fun v0 v1 v2 v3 v8 v9 v10 v12 v13 v14 v17 v18 v19 v21 v50 v57 v70 v74 v75 v83 v97 v103 => v57)
def c37_11 (C : Callee) : Cd V22 := fun v S κ => (V22.casesOn v fun v0 v1 v2 v3 v8 v9 v10 v12 v13 v14 v17 v18 v19 v21 v50 v57 v70 v74 v75 v83 v97 v103 => 
  κ .normal (V22.mk v0 v1 v2 v3 (.bool true) v9 v10 v12 v13 v14 v17 v18 v19 v21 v50 v57 v70 v74 v75 v83 v97 v103) S)
def c37_12 (C : Callee) : Cd V22 := fun v S κ => (V22.casesOn v fun v0 v1 v2 v3 v8 v9 v10 v12 v13 v14 v17 v18 v19 v21 v50 v57 v70 v74 v75 v83 v97 v103 => 
  kBin .neq v9 v10 S fun v104 S104 =>
  κ .normal (V22.mk v0 v1 v2 v3 v8 v9 v10 v12 v13 v14 v17 v18 v19 v21 v50 v57 v104 v74 v75 v83 v97 v103) S104)
def c37_13 : V22 → Value := fun v => (V22.casesOn v fun v0 v1 v2 v3 v8 v9 v10 v12 v13 v14 v17 v18 v19 v21 v50 v57 v70 v74 v75 v83 v97 v103 => v70)
def c37_14 (C : Callee) : Cd V22 := fun v S κ => (V22.casesOn v fun v0 v1 v2 v3 v8 v9 v10 v12 v13 v14 v17 v18 v19 v21 v50 v57 v70 v74 v75 v83 v97 v103 => 
  κ .normal (V22.mk v0 v1 v2 v3 (.bool false) v9 v10 v12 v13 v14 v17 v18 v19 v21 v50 v57 v70 v74 v75 v83 v97 v103) S)
def c37_15 (C : Callee) : Cd V22 := fun v S κ => (V22.casesOn v fun v0 v1 v2 v3 v8 v9 v10 v12 v13 v14 v17 v18 v19 v21 v50 v57 v70 v74 v75 v83 v97 v103 => 
  κ .normal (V22.mk v0 v1 v2 v3 v8 v9 v10 v12 v13 v14 v17 v18 v19 v21 v50 v57 v70 v9 v75 v83 v97 v103) S)
def c37_16 (C : Callee) : Cd V22 := fun v S κ => (V22.casesOn v fun v0 v1 v2 v3 v8 v9 v10 v12 v13 v14 v17 v18 v19 v21 v50 v57 v70 v74 v75 v83 v97 v103 => 
  kBin .eql v74 (.int .i64 15) S fun v104 S104 =>
  κ .normal (V22.mk v0 v1 v2 v3 v8 v9 v10 v12 v13 v14 v17 v18 v19 v21 v50 v57 v70 v74 v104 v83 v97 v103) S104)
def c37_17 : V22 → Value := fun v => (V22.casesOn v fun v0 v1 v2 v3 v8 v9 v10 v12 v13 v14 v17 v18 v19 v21 v50 v57 v70 v74 v75 v83 v97 v103 => v75)
def c37_18 (C : Callee) : Cd V22 := fun v S κ => (V22.casesOn v fun v0 v1 v2 v3 v8 v9 v10 v12 v13 v14 v17 v18 v19 v21 v50 v57 v70 v74 v75 v83 v97 v103 => 
  kBin .eql v74 (.int .i64 14) S fun v104 S104 =>
  κ .normal (V22.mk v0 v1 v2 v3 v8 v9 v10 v12 v13 v14 v17 v18 v19 v21 v50 v57 v70 v74 v104 v83 v97 v103) S104)
def c37_19 : V22 → Value := fun v => (V22.casesOn v fun v0 v1 v2 v3 v8 v9 v10 v12 v13 v14 v17 v18 v19 v21 v50 v57 v70 v74 v75 v83 v97 v103 => v75)
def c37_20 (C : Callee) : Cd V22 := fun v S κ => (V22.casesOn v fun v0 v1 v2 v3 v8 v9 v10 v12 v13 v14 v17 v18 v19 v21 v50 v57 v70 v74 v75 v83 v97 v103 => 
  kCall C 37 [v0, v13, v18, v3] S fun v104 S104 =>
  κ .normal (V22.mk v0 v1 v2 v3 v104 v9 v10 v12 v13 v14 v17 v18 v19 v21 v50 v57 v70 v74 v75 v83 v97 v103) S104)
def c37_21 (C : Callee) : Cd V22 := fun v S κ => (V22.casesOn v fun v0 v1 v2 v3 v8 v9 v10 v12 v13 v14 v17 v18 v19 v21 v50 v57 v70 v74 v75 v83 v97 v103 => 
  kBin .eql v74 (.int .i64 13) S fun v104 S104 =>
  κ .normal (V22.mk v0 v1 v2 v3 v8 v9 v10 v12 v13 v14 v17 v18 v19 v21 v50 v57 v70 v74 v75 v104 v97 v103) S104)
def c37_22 : V22 → Value := fun v => (V22.casesOn v fun v0 v1 v2 v3 v8 v9 v10 v12 v13 v14 v17 v18 v19 v21 v50 v57 v70 v74 v75 v83 v97 v103 => v83)
def c37_23 (C : Callee) : Cd V22 := fun v S κ => (V22.casesOn v fun v0 v1 v2 v3 v8 v9 v10 v12 v13 v14 v17 v18 v19 v21 v50 v57 v70 v74 v75 v83 v97 v103 => 
  kCall C 37 [v0, v13, v18, v3] S fun v104 S104 =>
  bl v104 fun b => cond b
   (kCall C 37 [v0, v14, v19, v3] S104 fun v105 S105 =>
   κ .normal (V22.mk v0 v1 v2 v3 v105 v9 v10 v12 v13 v14 v17 v18 v19 v21 v50 v57 v70 v74 v75 v83 v97 v103) S105)
   (κ .normal (V22.mk v0 v1 v2 v3 (.bool false) v9 v10 v12 v13 v14 v17 v18 v19 v21 v50 v57 v70 v74 v75 v83 v97 v103) S104))
def c37_24 (C : Callee) : Cd V22 := fun v S κ => (V22.casesOn v fun v0 v1 v2 v3 v8 v9 v10 v12 v13 v14 v17 v18 v19 v21 v50 v57 v70 v74 v75 v83 v97 v103 => 
  kBin .eql v74 (.int .i64 17) S fun v104 S104 =>
  κ .normal (V22.mk v0 v1 v2 v3 v8 v9 v10 v12 v13 v14 v17 v18 v19 v21 v50 v57 v70 v74 v75 v83 v104 v103) S104)
def c37_25 : V22 → Value := fun v => (V22.casesOn v fun v0 v1 v2 v3 v8 v9 v10 v12 v13 v14 v17 v18 v19 v21 v50 v57 v70 v74 v75 v83 v97 v103 => v97)
def c37_26 (C : Callee) : Cd V22 := fun v S κ => (V22.casesOn v fun v0 v1 v2 v3 v8 v9 v10 v12 v13 v14 v17 v18 v19 v21 v50 v57 v70 v74 v75 v83 v97 v103 => 
  kCall C 77 [v0, v12, v17] S fun v104 S104 =>
  κ .normal (V22.mk v0 v1 v2 v3 v104 v9 v10 v12 v13 v14 v17 v18 v19 v21 v50 v57 v70 v74 v75 v83 v97 v103) S104)
def c37_27 (C : Callee) : Cd V22 := fun v S κ => (V22.casesOn v fun v0 v1 v2 v3 v8 v9 v10 v12 v13 v14 v17 v18 v19 v21 v50 v57 v70 v74 v75 v83 v97 v103 => 
  kBin .eql v74 (.int .i64 12) S fun v104 S104 =>
  κ .normal (V22.mk v0 v1 v2 v3 v8 v9 v10 v12 v13 v14 v17 v18 v19 v21 v50 v57 v70 v74 v75 v83 v97 v104) S104)
def c37_28 : V22 → Value := fun v => (V22.casesOn v fun v0 v1 v2 v3 v8 v9 v10 v12 v13 v14 v17 v18 v19 v21 v50 v57 v70 v74 v75 v83 v97 v103 => v103)
def c37_29 (C : Callee) : Cd V22 := fun v S κ => (V22.casesOn v fun v0 v1 v2 v3 v8 v9 v10 v12 v13 v14 v17 v18 v19 v21 v50 v57 v70 v74 v75 v83 v97 v103 => 
  kNilc v0 S fun v104 S104 =>
  kFad 6 v104 S104 fun v105 S105 =>
  kLd none v105 S105 fun v106 S106 =>
  kBuild [.string ⟨#[]⟩, .string ⟨#[]⟩] [(0, 1, v12), (1, 1, v17)] S106 fun v107 S107 =>
  kMlk (.agg [.str, .str]) (.int .i64 0) false v106 v107 S107 fun v108 S108 =>
  κ .normal (V22.mk v0 v1 v2 v3 v8 v9 v10 v12 v13 v14 v17 v18 v19 v108 v50 v57 v70 v74 v75 v83 v97 v103) S108)
def c37_30 (C : Callee) : Cd V22 := fun v S κ => (V22.casesOn v fun v0 v1 v2 v3 v8 v9 v10 v12 v13 v14 v17 v18 v19 v21 v50 v57 v70 v74 v75 v83 v97 v103 => 
  kBin .eql v21 (.int .i64 0) S fun v104 S104 =>
  bl v104 fun b => cond b
   (κ .normal (V22.mk v0 v1 v2 v3 (.bool true) v9 v10 v12 v13 v14 v17 v18 v19 v21 v50 v57 v70 v74 v75 v83 v97 v103) S104)
   (kBin .geq v21 v3 S104 fun v105 S105 =>
   κ .normal (V22.mk v0 v1 v2 v3 v105 v9 v10 v12 v13 v14 v17 v18 v19 v21 v50 v57 v70 v74 v75 v83 v97 v103) S105))
def c37_31 (C : Callee) : Cd V22 := fun v S κ => (V22.casesOn v fun v0 v1 v2 v3 v8 v9 v10 v12 v13 v14 v17 v18 v19 v21 v50 v57 v70 v74 v75 v83 v97 v103 => 
  κ .normal (V22.mk v0 v1 v2 v3 (.bool true) v9 v10 v12 v13 v14 v17 v18 v19 v21 v50 v57 v70 v74 v75 v83 v97 v103) S)
/-- (*assayer/pair.Solver).Types -/
def c37 (C : Callee) (n : Nat) : Cd V22 := seqK (c37_0 C) (seqK (c37_1 C) (seqK (c37_2 C) (seqK (c37_3 C) (seqK (blockK 0 (seqK (c37_4 C) (condK c37_5 (seqK (c37_6 C) (retK)) (seqK (seqK (c37_7 C) (condK c37_8 (skipK) (c37_9 C))) (condK c37_10 (seqK (c37_11 C) (retK)) (seqK (c37_12 C) (condK c37_13 (seqK (c37_14 C) (retK)) (skipK)))))))) (seqK (seqK (c37_15 C) (blockK 1 (seqK (seqK (c37_16 C) (condK c37_17 (skipK) (c37_18 C))) (condK c37_19 (seqK (c37_20 C) (retK)) (seqK (c37_21 C) (condK c37_22 (seqK (c37_23 C) (retK)) (seqK (c37_24 C) (condK c37_25 (seqK (c37_26 C) (retK)) (seqK (c37_27 C) (condK c37_28 (seqK (c37_29 C) (seqK (c37_30 C) (retK))) (skipK))))))))))) (seqK (c37_31 C) (retK)))))))
def r37 (v : V22) (S : AW) : R := (V22.casesOn v fun v0 v1 v2 v3 v8 v9 v10 v12 v13 v14 v17 v18 v19 v21 v50 v57 v70 v74 v75 v83 v97 v103 => some (v8, S))
def g37 (C : Callee) (n : Nat) (args : List Value) (S : AW) : R := c37 C n (V22.mk (argV args 0) (argV args 1) (argV args 2) (argV args 3) (argV args 8) (argV args 9) (argV args 10) (argV args 12) (argV args 13) (argV args 14) (argV args 17) (argV args 18) (argV args 19) (argV args 21) (argV args 50) (argV args 57) (argV args 70) (argV args 74) (argV args 75) (argV args 83) (argV args 97) (argV args 103)) S fun o v S => EX.casesOn o (r37 v S) (fun _ => none) (r37 v S)
/-! assayer/pair.New -/
def c64_0 (C : Callee) : Cd V5 := fun v S κ => (V5.casesOn v fun v0 v1 v2 v3 v4 => 
  kBox 38 3 v0 S fun v5 S5 =>
  kBox 38 3 v1 S5 fun v6 S6 =>
  κ .normal (V5.mk v0 v1 v5 v6 (.pointer none)) S6)
def c64_1 (C : Callee) : Cd V5 := fun v S κ => (V5.casesOn v fun v0 v1 v2 v3 v4 => 
  kLd (some 3) v2 S fun v5 S5 =>
  kLd (some 3) v3 S5 fun v6 S6 =>
  kMkm none S6 fun v7 S7 =>
  kMkm none S7 fun v8 S8 =>
  kBuild [.slice none 0 0, .slice none 0 0, .slice none 0 0, .slice none 0 0, .slice none 0 0, .slice none 0 0, .map none, .map none, .slice none 0 0] [(0, 3, v5), (3, 3, v6), (6, 1, v7), (7, 1, v8)] S8 fun v9 S9 =>
  kBox 103 9 v9 S9 fun v10 S10 =>
  κ .normal (V5.mk v0 v1 v2 v3 v10) S10)
/-- assayer/pair.New -/
def c64 (C : Callee) (n : Nat) : Cd V5 := seqK (c64_0 C) (seqK (c64_1 C) (retK))
def r64 (v : V5) (S : AW) : R := (V5.casesOn v fun v0 v1 v2 v3 v4 => some (v4, S))
def g64 (C : Callee) (n : Nat) (args : List Value) (S : AW) : R := c64 C n (V5.mk (argV args 0) (argV args 1) (argV args 2) (argV args 3) (argV args 4)) S fun o v S => EX.casesOn o (r64 v S) (fun _ => none) (r64 v S)
/-! (*assayer/pair.Solver).reaches -/
def c65_0 (C : Callee) : Cd V6 := fun v S κ => (V6.casesOn v fun v0 v1 v3 v4 v6 v13 => 
  kBox 98 2 v1 S fun v14 S14 =>
  κ .normal (V6.mk v0 v1 v14 v4 v6 v13) S14)
def c65_1 (C : Callee) : Cd V6 := fun v S κ => (V6.casesOn v fun v0 v1 v3 v4 v6 v13 => 
  kNilc v0 S fun v14 S14 =>
  kFad 7 v14 S14 fun v15 S15 =>
  kLd none v15 S15 fun v16 S16 =>
  kLd (some 2) v3 S16 fun v17 S17 =>
  kMlk (.agg [.str, .str]) (.bool false) false v16 v17 S17 fun v18 S18 =>
  κ .normal (V6.mk v0 v1 v3 v4 v6 v18) S18)
def c65_2 : V6 → Value := fun v => (V6.casesOn v fun v0 v1 v3 v4 v6 v13 => v13)
def c65_3 (C : Callee) : Cd V6 := fun v S κ => (V6.casesOn v fun v0 v1 v3 v4 v6 v13 => 
  kNilc v0 S fun v14 S14 =>
  kFad 7 v14 S14 fun v15 S15 =>
  kLd none v15 S15 fun v16 S16 =>
  kLd (some 2) v3 S16 fun v17 S17 =>
  kMup (.agg [.str, .str]) v16 v17 (.bool true) S17 fun v18 S18 =>
  κ .normal (V6.mk v0 v1 v3 v4 v6 v13) S18)
def c65_4 (C : Callee) : Cd V6 := fun v S κ => (V6.casesOn v fun v0 v1 v3 v4 v6 v13 => 
  kNilc v0 S fun v14 S14 =>
  kFad 8 v14 S14 fun v15 S15 =>
  kLd none v15 S15 fun v16 S16 =>
  kLd (some 2) v3 S16 fun v17 S17 =>
  kLit 98 2 [.string ⟨#[]⟩, .string ⟨#[]⟩] 1 [(0, 2, v17)] S17 fun v18 S18 =>
  kLd (some 2) v3 S18 fun u _ => cond (veqB u v17)
   (kLd none v15 S18 fun u _ => cond (veqB u v16)
    (kApp 98 2 32 v16 v18 S18 fun v19 S19 =>
    kNilc v0 S19 fun v20 S20 =>
    kFad 8 v20 S20 fun v21 S21 =>
    kSt 1 v21 v19 S21 fun v22 S22 =>
    κ .normal (V6.mk v0 v1 v3 v4 v6 v13) S22) none) none)
def c65_5 (C : Callee) : Cd V6 := fun v S κ => (V6.casesOn v fun v0 v1 v3 v4 v6 v13 => 
  kNilc v0 S fun v14 S14 =>
  kFad 0 v14 S14 fun v15 S15 =>
  kLd (some 3) v15 S15 fun v16 S16 =>
  kIadA 2 1 v3 (.int .i64 0) S16 fun v17 S17 =>
  kLd none v17 S17 fun v18 S18 =>
  kNew 32 3 [.int .i64 0, .string ⟨#[]⟩, .slice none 0 0] S18 fun v19 S19 =>
  kLd none v17 S19 fun u _ => cond (veqB u v18)
   (kLd (some 3) v15 S19 fun u _ => cond (veqB u v16)
    (kCall C 86 [v16, v18] S19 fun v21 S21 =>
    kExt 0 v21 S21 fun v22 S22 =>
    kExt 1 v21 S22 fun v23 S23 =>
    cond (rowSame S23 S19 v19)
     (kSt 3 v19 v22 S23 fun v24 S24 =>
     κ .normal (V6.mk v0 v1 v3 v19 v6 v13) S24) none) none) none)
def c65_6 (C : Callee) : Cd V6 := fun v S κ => (V6.casesOn v fun v0 v1 v3 v4 v6 v13 => 
  kNilc v0 S fun v14 S14 =>
  kFad 3 v14 S14 fun v15 S15 =>
  kLd (some 3) v15 S15 fun v16 S16 =>
  kIadA 2 1 v3 (.int .i64 1) S16 fun v17 S17 =>
  kLd none v17 S17 fun v18 S18 =>
  kNew 32 3 [.int .i64 0, .string ⟨#[]⟩, .slice none 0 0] S18 fun v19 S19 =>
  kLd none v17 S19 fun u _ => cond (veqB u v18)
   (kLd (some 3) v15 S19 fun u _ => cond (veqB u v16)
    (kCall C 86 [v16, v18] S19 fun v21 S21 =>
    kExt 0 v21 S21 fun v22 S22 =>
    kExt 1 v21 S22 fun v23 S23 =>
    cond (rowSame S23 S19 v19)
     (kSt 3 v19 v22 S23 fun v24 S24 =>
     κ .normal (V6.mk v0 v1 v3 v4 v19 v13) S24) none) none) none)
def c65_7 (C : Callee) : Cd V6 := fun v S κ => (V6.casesOn v fun v0 v1 v3 v4 v6 v13 => 
  kLd (some 3) v4 S fun v14 S14 =>
  kLd (some 3) v6 S14 fun v15 S15 =>
  kCall C 67 [v0, v14, v15] S15 fun v16 S16 =>
  κ .normal (V6.mk v0 v1 v3 v4 v6 v13) S16)
/-- (*assayer/pair.Solver).reaches -/
def c65 (C : Callee) (n : Nat) : Cd V6 := seqK (c65_0 C) (seqK (seqK (c65_1 C) (condK c65_2 (retK) (skipK))) (seqK (c65_3 C) (seqK (c65_4 C) (seqK (c65_5 C) (seqK (c65_6 C) (c65_7 C))))))
def r65 (v : V6) (S : AW) : R := (V6.casesOn v fun v0 v1 v3 v4 v6 v13 => some (.tuple #[], S))
def g65 (C : Callee) (n : Nat) (args : List Value) (S : AW) : R := c65 C n (V6.mk (argV args 0) (argV args 1) (argV args 3) (argV args 4) (argV args 6) (argV args 13)) S fun o v S => EX.casesOn o (r65 v S) (fun _ => none) (r65 v S)
/-! (*assayer/pair.Solver).solve -/
def c66_0 (C : Callee) : Cd V13 := fun v S κ => (V13.casesOn v fun v0 v2 v3 v5 v6 v8 v10 v16 v17 v18 v19 v28 v54 => 
  κ .normal (V13.mk v0 (.int .i64 1) (.bool true) v5 v6 v8 v10 v16 v17 v18 v19 v28 v54) S)
def c66_1 (C : Callee) : Cd V13 := fun v S κ => (V13.casesOn v fun v0 v2 v3 v5 v6 v8 v10 v16 v17 v18 v19 v28 v54 => 
  κ .normal (V13.mk v0 v2 v3 v5 v6 v8 v3 v16 v17 v18 v19 v28 v54) S)
def c66_2 : V13 → Value := fun v => (V13.casesOn v fun v0 v2 v3 v5 v6 v8 v10 v16 v17 v18 v19 v28 v54 => v10)
def c66_3 (C : Callee) : Cd V13 := fun v S κ => (V13.casesOn v fun v0 v2 v3 v5 v6 v8 v10 v16 v17 v18 v19 v28 v54 => 
  κ .normal (V13.mk v0 v2 (.bool false) v5 v6 v8 v10 v16 v17 v18 v19 v28 v54) S)
def c66_4 (C : Callee) : Cd V13 := fun v S κ => (V13.casesOn v fun v0 v2 v3 v5 v6 v8 v10 v16 v17 v18 v19 v28 v54 => 
  kNilc v0 S fun v55 S55 =>
  kFad 8 v55 S55 fun v56 S56 =>
  kLd none v56 S56 fun v57 S57 =>
  kLen false v57 S57 fun v58 S58 =>
  κ .normal (V13.mk v0 v2 v3 v5 v6 v8 v10 v57 v58 (.int .i64 0) v19 v28 v54) S58)
def c66_5 (C : Callee) : Cd V13 := fun v S κ => (V13.casesOn v fun v0 v2 v3 v5 v6 v8 v10 v16 v17 v18 v19 v28 v54 => 
  kBin .lss v18 v17 S fun v55 S55 =>
  κ .normal (V13.mk v0 v2 v3 v5 v6 v8 v10 v16 v17 v18 v55 v28 v54) S55)
def c66_6 : V13 → Value := fun v => (V13.casesOn v fun v0 v2 v3 v5 v6 v8 v10 v16 v17 v18 v19 v28 v54 => v19)
def c66_7 (C : Callee) : Cd V13 := fun v S κ => (V13.casesOn v fun v0 v2 v3 v5 v6 v8 v10 v16 v17 v18 v19 v28 v54 => 
  kIad 2 v16 v18 S fun v55 S55 =>
  kLd (some 2) v55 S55 fun v56 S56 =>
  kNew 98 2 [.string ⟨#[]⟩, .string ⟨#[]⟩] S56 fun v57 S57 =>
  kSt 2 v57 v56 S57 fun v58 S58 =>
  κ .normal (V13.mk v0 v2 v3 v57 v6 v8 v10 v16 v17 v18 v19 v28 v54) S58)
def c66_8 (C : Callee) : Cd V13 := fun v S κ => (V13.casesOn v fun v0 v2 v3 v5 v6 v8 v10 v16 v17 v18 v19 v28 v54 => 
  kNilc v0 S fun v55 S55 =>
  kFad 6 v55 S55 fun v56 S56 =>
  kLd none v56 S56 fun v57 S57 =>
  kLd (some 2) v5 S57 fun v58 S58 =>
  kMlk (.agg [.str, .str]) (.int .i64 0) false v57 v58 S58 fun v59 S59 =>
  kBin .neq v59 (.int .i64 0) S59 fun v60 S60 =>
  κ .normal (V13.mk v0 v2 v3 v5 v6 v8 v10 v16 v17 v18 v19 v60 v54) S60)
def c66_9 : V13 → Value := fun v => (V13.casesOn v fun v0 v2 v3 v5 v6 v8 v10 v16 v17 v18 v19 v28 v54 => v28)
def c66_10 (C : Callee) : Cd V13 := fun v S κ => (V13.casesOn v fun v0 v2 v3 v5 v6 v8 v10 v16 v17 v18 v19 v28 v54 => 
  kNilc v0 S fun v55 S55 =>
  kFad 0 v55 S55 fun v56 S56 =>
  kLd (some 3) v56 S56 fun v57 S57 =>
  kIadA 2 1 v5 (.int .i64 0) S57 fun v58 S58 =>
  kLd none v58 S58 fun v59 S59 =>
  kNew 32 3 [.int .i64 0, .string ⟨#[]⟩, .slice none 0 0] S59 fun v60 S60 =>
  kLd none v58 S60 fun u _ => cond (veqB u v59)
   (kLd (some 3) v56 S60 fun u _ => cond (veqB u v57)
    (kCall C 86 [v57, v59] S60 fun v62 S62 =>
    kExt 0 v62 S62 fun v63 S63 =>
    kExt 1 v62 S63 fun v64 S64 =>
    cond (rowSame S64 S60 v60)
     (kSt 3 v60 v63 S64 fun v65 S65 =>
     κ .normal (V13.mk v0 v2 v3 v5 v60 v8 v10 v16 v17 v18 v19 v28 v54) S65) none) none) none)
def c66_11 (C : Callee) : Cd V13 := fun v S κ => (V13.casesOn v fun v0 v2 v3 v5 v6 v8 v10 v16 v17 v18 v19 v28 v54 => 
  kNilc v0 S fun v55 S55 =>
  kFad 3 v55 S55 fun v56 S56 =>
  kLd (some 3) v56 S56 fun v57 S57 =>
  kIadA 2 1 v5 (.int .i64 1) S57 fun v58 S58 =>
  kLd none v58 S58 fun v59 S59 =>
  kNew 32 3 [.int .i64 0, .string ⟨#[]⟩, .slice none 0 0] S59 fun v60 S60 =>
  kLd none v58 S60 fun u _ => cond (veqB u v59)
   (kLd (some 3) v56 S60 fun u _ => cond (veqB u v57)
    (kCall C 86 [v57, v59] S60 fun v62 S62 =>
    kExt 0 v62 S62 fun v63 S63 =>
    kExt 1 v62 S63 fun v64 S64 =>
    cond (rowSame S64 S60 v60)
     (kSt 3 v60 v63 S64 fun v65 S65 =>
     κ .normal (V13.mk v0 v2 v3 v5 v6 v60 v10 v16 v17 v18 v19 v28 v54) S65) none) none) none)
def c66_12 (C : Callee) : Cd V13 := fun v S κ => (V13.casesOn v fun v0 v2 v3 v5 v6 v8 v10 v16 v17 v18 v19 v28 v54 => 
  kLd (some 3) v6 S fun v55 S55 =>
  kLd (some 3) v8 S55 fun v56 S56 =>
  kCall C 34 [v0, v55, v56, v2] S56 fun v57 S57 =>
  kUn .not v57 S57 fun v58 S58 =>
  κ .normal (V13.mk v0 v2 v3 v5 v6 v8 v10 v16 v17 v18 v19 v28 v58) S58)
def c66_13 : V13 → Value := fun v => (V13.casesOn v fun v0 v2 v3 v5 v6 v8 v10 v16 v17 v18 v19 v28 v54 => v54)
def c66_14 (C : Callee) : Cd V13 := fun v S κ => (V13.casesOn v fun v0 v2 v3 v5 v6 v8 v10 v16 v17 v18 v19 v28 v54 => 
  kNilc v0 S fun v55 S55 =>
  kFad 6 v55 S55 fun v56 S56 =>
  kLd none v56 S56 fun v57 S57 =>
  kLd (some 2) v5 S57 fun v58 S58 =>
  kMup (.agg [.str, .str]) v57 v58 v2 S58 fun v59 S59 =>
  κ .normal (V13.mk v0 v2 v3 v5 v6 v8 v10 v16 v17 v18 v19 v28 v54) S59)
def c66_15 (C : Callee) : Cd V13 := fun v S κ => (V13.casesOn v fun v0 v2 v3 v5 v6 v8 v10 v16 v17 v18 v19 v28 v54 => 
  κ .normal (V13.mk v0 v2 (.bool true) v5 v6 v8 v10 v16 v17 v18 v19 v28 v54) S)
def c66_16 (C : Callee) : Cd V13 := fun v S κ => (V13.casesOn v fun v0 v2 v3 v5 v6 v8 v10 v16 v17 v18 v19 v28 v54 => 
  kBin .add v18 (.int .i64 1) S fun v55 S55 =>
  κ .normal (V13.mk v0 v2 v3 v5 v6 v8 v10 v16 v17 v55 v19 v28 v54) S55)
def c66_17 (C : Callee) (n : Nat) : Cd V13 := seqK (c66_5 C) (seqK (condK c66_6 (skipK) (exitK 2)) (seqK (blockK 3 (seqK (c66_7 C) (seqK (seqK (c66_8 C) (condK c66_9 (exitK 3) (skipK))) (seqK (c66_10 C) (seqK (c66_11 C) (seqK (c66_12 C) (condK c66_13 (seqK (c66_14 C) (c66_15 C)) (skipK)))))))) (c66_16 C)))
def c66_18 (C : Callee) : Cd V13 := fun v S κ => (V13.casesOn v fun v0 v2 v3 v5 v6 v8 v10 v16 v17 v18 v19 v28 v54 => 
  kBin .add v2 (.int .i64 1) S fun v55 S55 =>
  κ .normal (V13.mk v0 v55 v3 v5 v6 v8 v10 v16 v17 v18 v19 v28 v54) S55)
def c66_19 (C : Callee) (n : Nat) : Cd V13 := seqK (seqK (c66_1 C) (condK c66_2 (skipK) (exitK 0))) (seqK (blockK 1 (seqK (c66_3 C) (seqK (c66_4 C) (blockK 2 (loopK n (c66_17 C n)))))) (c66_18 C))
/-- (*assayer/pair.Solver).solve -/
def c66 (C : Callee) (n : Nat) : Cd V13 := seqK (c66_0 C) (blockK 0 (loopK n (c66_19 C n)))
def r66 (v : V13) (S : AW) : R := (V13.casesOn v fun v0 v2 v3 v5 v6 v8 v10 v16 v17 v18 v19 v28 v54 => some (.tuple #[], S))
def g66 (C : Callee) (n : Nat) (args : List Value) (S : AW) : R := c66 C n (V13.mk (argV args 0) (argV args 2) (argV args 3) (argV args 5) (argV args 6) (argV args 8) (argV args 10) (argV args 16) (argV args 17) (argV args 18) (argV args 19) (argV args 28) (argV args 54)) S fun o v S => EX.casesOn o (r66 v S) (fun _ => none) (r66 v S)
/-! (*assayer/pair.Solver).fields -/
def c67_0 (C : Callee) : Cd V13 := fun v S κ => (V13.casesOn v fun v0 v1 v2 v4 v5 v7 v8 v9 v11 v12 v13 v14 v24 => 
  kBox 32 3 v1 S fun v25 S25 =>
  kBox 32 3 v2 S25 fun v26 S26 =>
  κ .normal (V13.mk v0 v1 v2 v25 v26 v7 v8 v9 v11 v12 v13 v14 v24) S26)
def c67_1 (C : Callee) : Cd V13 := fun v S κ => (V13.casesOn v fun v0 v1 v2 v4 v5 v7 v8 v9 v11 v12 v13 v14 v24 => 
  kFad 2 v4 S fun v25 S25 =>
  kLd none v25 S25 fun v26 S26 =>
  kLen false v26 S26 fun v27 S27 =>
  κ .normal (V13.mk v0 v1 v2 v4 v5 v7 v8 v9 v26 v27 (.int .i64 0) v14 v24) S27)
def c67_2 (C : Callee) : Cd V13 := fun v S κ => (V13.casesOn v fun v0 v1 v2 v4 v5 v7 v8 v9 v11 v12 v13 v14 v24 => 
  kBin .lss v13 v12 S fun v25 S25 =>
  κ .normal (V13.mk v0 v1 v2 v4 v5 v7 v8 v9 v11 v12 v13 v25 v24) S25)
def c67_3 : V13 → Value := fun v => (V13.casesOn v fun v0 v1 v2 v4 v5 v7 v8 v9 v11 v12 v13 v14 v24 => v14)
def c67_4 (C : Callee) : Cd V13 := fun v S κ => (V13.casesOn v fun v0 v1 v2 v4 v5 v7 v8 v9 v11 v12 v13 v14 v24 => 
  kIad 10 v11 v13 S fun v25 S25 =>
  kLd (some 10) v25 S25 fun v26 S26 =>
  kNew 28 10 [.int .i64 0, .int .i64 0, .string ⟨#[]⟩, .string ⟨#[]⟩, .bool false, .int .i64 0, .int .i64 0, .string ⟨#[]⟩, .slice none 0 0, .slice none 0 0] S26 fun v27 S27 =>
  kSt 10 v27 v26 S27 fun v28 S28 =>
  κ .normal (V13.mk v0 v1 v2 v4 v5 v27 v8 v9 v11 v12 v13 v14 v24) S28)
def c67_5 (C : Callee) : Cd V13 := fun v S κ => (V13.casesOn v fun v0 v1 v2 v4 v5 v7 v8 v9 v11 v12 v13 v14 v24 => 
  kLd (some 3) v5 S fun v25 S25 =>
  kFad 0 v7 S25 fun v26 S26 =>
  kLd none v26 S26 fun v27 S27 =>
  kCall C 68 [v25, v27] S27 fun v28 S28 =>
  kExt 0 v28 S28 fun v29 S29 =>
  kExt 1 v28 S29 fun v30 S30 =>
  kNew 28 10 [.int .i64 0, .int .i64 0, .string ⟨#[]⟩, .string ⟨#[]⟩, .bool false, .int .i64 0, .int .i64 0, .string ⟨#[]⟩, .slice none 0 0, .slice none 0 0] S30 fun v31 S31 =>
  kSt 10 v31 v29 S31 fun v32 S32 =>
  κ .normal (V13.mk v0 v1 v2 v4 v5 v7 v31 v30 v11 v12 v13 v14 v24) S32)
def c67_6 (C : Callee) : Cd V13 := fun v S κ => (V13.casesOn v fun v0 v1 v2 v4 v5 v7 v8 v9 v11 v12 v13 v14 v24 => 
  κ .normal (V13.mk v0 v1 v2 v4 v5 v7 v8 v9 v11 v12 v13 v14 v9) S)
def c67_7 : V13 → Value := fun v => (V13.casesOn v fun v0 v1 v2 v4 v5 v7 v8 v9 v11 v12 v13 v14 v24 => v24)
def c67_8 (C : Callee) : Cd V13 := fun v S κ => (V13.casesOn v fun v0 v1 v2 v4 v5 v7 v8 v9 v11 v12 v13 v14 v24 => 
  kFad 2 v7 S fun v25 S25 =>
  kLd none v25 S25 fun v26 S26 =>
  kFad 2 v8 S26 fun v27 S27 =>
  kLd none v27 S27 fun v28 S28 =>
  kCall C 75 [v0, v26, v28] S28 fun v29 S29 =>
  κ .normal (V13.mk v0 v1 v2 v4 v5 v7 v8 v9 v11 v12 v13 v14 v24) S29)
def c67_9 (C : Callee) : Cd V13 := fun v S κ => (V13.casesOn v fun v0 v1 v2 v4 v5 v7 v8 v9 v11 v12 v13 v14 v24 => 
  kBin .add v13 (.int .i64 1) S fun v25 S25 =>
  κ .normal (V13.mk v0 v1 v2 v4 v5 v7 v8 v9 v11 v12 v25 v14 v24) S25)
def c67_10 (C : Callee) (n : Nat) : Cd V13 := seqK (c67_2 C) (seqK (condK c67_3 (skipK) (exitK 0)) (seqK (blockK 1 (seqK (c67_4 C) (seqK (c67_5 C) (seqK (c67_6 C) (condK c67_7 (c67_8 C) (skipK)))))) (c67_9 C)))
/-- (*assayer/pair.Solver).fields -/
def c67 (C : Callee) (n : Nat) : Cd V13 := seqK (c67_0 C) (seqK (c67_1 C) (blockK 0 (loopK n (c67_10 C n))))
def r67 (v : V13) (S : AW) : R := (V13.casesOn v fun v0 v1 v2 v4 v5 v7 v8 v9 v11 v12 v13 v14 v24 => some (.tuple #[], S))
def g67 (C : Callee) (n : Nat) (args : List Value) (S : AW) : R := c67 C n (V13.mk (argV args 0) (argV args 1) (argV args 2) (argV args 4) (argV args 5) (argV args 7) (argV args 8) (argV args 9) (argV args 11) (argV args 12) (argV args 13) (argV args 14) (argV args 24)) S fun o v S => EX.casesOn o (r67 v S) (fun _ => none) (r67 v S)
/-! assayer/value.Field -/
def c68_0 (C : Callee) : Cd V8 := fun v S κ => (V8.casesOn v fun v0 v1 v2 v3 v4 v5 v6 v12 => 
  kBox 32 3 v0 S fun v13 S13 =>
  kBox 3 1 v1 S13 fun v14 S14 =>
  kNew 28 10 [.int .i64 0, .int .i64 0, .string ⟨#[]⟩, .string ⟨#[]⟩, .bool false, .int .i64 0, .int .i64 0, .string ⟨#[]⟩, .slice none 0 0, .slice none 0 0] S14 fun v15 S15 =>
  κ .normal (V8.mk v0 v1 v13 v14 v15 (.bool false) v6 v12) S15)
def c68_1 (C : Callee) : Cd V8 := fun v S κ => (V8.casesOn v fun v0 v1 v2 v3 v4 v5 v6 v12 => 
  kFad 2 v2 S fun v13 S13 =>
  kLd none v13 S13 fun v14 S14 =>
  kVal (.func (.func 88) #[] #[v3]) S14 fun v15 S15 =>
  kCall C 87 [v14, v15] S15 fun v16 S16 =>
  κ .normal (V8.mk v0 v1 v2 v3 v4 v5 v16 v12) S16)
def c68_2 (C : Callee) : Cd V8 := fun v S κ => (V8.casesOn v fun v0 v1 v2 v3 v4 v5 v6 v12 => 
  kBin .lss v6 (.int .i64 0) S fun v13 S13 =>
  κ .normal (V8.mk v0 v1 v2 v3 v4 v5 v6 v13) S13)
def c68_3 : V8 → Value := fun v => (V8.casesOn v fun v0 v1 v2 v3 v4 v5 v6 v12 => v12)
def c68_4 (C : Callee) : Cd V8 := fun v S κ => (V8.casesOn v fun v0 v1 v2 v3 v4 v5 v6 v12 => 
  kBuild [.int .i64 0, .int .i64 0, .string ⟨#[]⟩, .string ⟨#[]⟩, .bool false, .int .i64 0, .int .i64 0, .string ⟨#[]⟩, .slice none 0 0, .slice none 0 0] [] S fun v13 S13 =>
  kSt 10 v4 v13 S13 fun v14 S14 =>
  κ .normal (V8.mk v0 v1 v2 v3 v4 (.bool false) v6 v12) S14)
def c68_5 (C : Callee) : Cd V8 := fun v S κ => (V8.casesOn v fun v0 v1 v2 v3 v4 v5 v6 v12 => 
  kFad 2 v2 S fun v13 S13 =>
  kLd none v13 S13 fun v14 S14 =>
  kIad 10 v14 v6 S14 fun v15 S15 =>
  kLd (some 10) v15 S15 fun v16 S16 =>
  kSt 10 v4 v16 S16 fun v17 S17 =>
  κ .normal (V8.mk v0 v1 v2 v3 v4 (.bool true) v6 v12) S17)
/-- assayer/value.Field -/
def c68 (C : Callee) (n : Nat) : Cd V8 := seqK (c68_0 C) (seqK (c68_1 C) (seqK (seqK (c68_2 C) (condK c68_3 (seqK (c68_4 C) (retK)) (skipK))) (seqK (c68_5 C) (retK))))
def r68 (v : V8) (S : AW) : R := (V8.casesOn v fun v0 v1 v2 v3 v4 v5 v6 v12 => kLd (some 10) v4 S fun r4 _ => some (.tuple #[r4, v5], S))
def g68 (C : Callee) (n : Nat) (args : List Value) (S : AW) : R := c68 C n (V8.mk (argV args 0) (argV args 1) (argV args 2) (argV args 3) (argV args 4) (argV args 5) (argV args 6) (argV args 12)) S fun o v S => EX.casesOn o (r68 v S) (fun _ => none) (r68 v S)
/-! assayer/pair.Shape -/
def c69_0 (C : Callee) : Cd V20 := fun v S κ => (V20.casesOn v fun v0 v1 v2 v3 v4 v6 v8 v10 v12 v13 v17 v18 v19 v20 v31 v50 v51 v52 v53 v65 => 
  kBox 32 3 v0 S fun v66 S66 =>
  kBox 32 3 v1 S66 fun v67 S67 =>
  κ .normal (V20.mk v0 v1 v66 v67 (.bool false) v6 v8 v10 v12 v13 v17 v18 v19 v20 v31 v50 v51 v52 v53 v65) S67)
def c69_1 (C : Callee) : Cd V20 := fun v S κ => (V20.casesOn v fun v0 v1 v2 v3 v4 v6 v8 v10 v12 v13 v17 v18 v19 v20 v31 v50 v51 v52 v53 v65 => 
  kFad 0 v3 S fun v66 S66 =>
  kLd none v66 S66 fun v67 S67 =>
  κ .normal (V20.mk v0 v1 v2 v3 v4 v6 v8 v10 v67 v13 v17 v18 v19 v20 v31 v50 v51 v52 v53 v65) S67)
def c69_2 (C : Callee) : Cd V20 := fun v S κ => (V20.casesOn v fun v0 v1 v2 v3 v4 v6 v8 v10 v12 v13 v17 v18 v19 v20 v31 v50 v51 v52 v53 v65 => 
  kBin .eql v12 (.int .i64 5) S fun v66 S66 =>
  κ .normal (V20.mk v0 v1 v2 v3 v4 v6 v8 v10 v12 v66 v17 v18 v19 v20 v31 v50 v51 v52 v53 v65) S66)
def c69_3 : V20 → Value := fun v => (V20.casesOn v fun v0 v1 v2 v3 v4 v6 v8 v10 v12 v13 v17 v18 v19 v20 v31 v50 v51 v52 v53 v65 => v13)
def c69_4 (C : Callee) : Cd V20 := fun v S κ => (V20.casesOn v fun v0 v1 v2 v3 v4 v6 v8 v10 v12 v13 v17 v18 v19 v20 v31 v50 v51 v52 v53 v65 => 
  kBin .eql v12 (.int .i64 8) S fun v66 S66 =>
  κ .normal (V20.mk v0 v1 v2 v3 v4 v6 v8 v10 v12 v66 v17 v18 v19 v20 v31 v50 v51 v52 v53 v65) S66)
def c69_5 : V20 → Value := fun v => (V20.casesOn v fun v0 v1 v2 v3 v4 v6 v8 v10 v12 v13 v17 v18 v19 v20 v31 v50 v51 v52 v53 v65 => v13)
def c69_6 (C : Callee) : Cd V20 := fun v S κ => (V20.casesOn v fun v0 v1 v2 v3 v4 v6 v8 v10 v12 v13 v17 v18 v19 v20 v31 v50 v51 v52 v53 v65 => 
  kFad 2 v2 S fun v66 S66 =>
  kLd none v66 S66 fun v67 S67 =>
  kLen false v67 S67 fun v68 S68 =>
  κ .normal (V20.mk v0 v1 v2 v3 v4 v6 v8 v10 v12 v13 v67 v68 (.int .i64 0) v20 v31 v50 v51 v52 v53 v65) S68)
def c69_7 (C : Callee) : Cd V20 := fun v S κ => (V20.casesOn v fun v0 v1 v2 v3 v4 v6 v8 v10 v12 v13 v17 v18 v19 v20 v31 v50 v51 v52 v53 v65 => 
  kBin .lss v19 v18 S fun v66 S66 =>
  κ .normal (V20.mk v0 v1 v2 v3 v4 v6 v8 v10 v12 v13 v17 v18 v19 v66 v31 v50 v51 v52 v53 v65) S66)
def c69_8 : V20 → Value := fun v => (V20.casesOn v fun v0 v1 v2 v3 v4 v6 v8 v10 v12 v13 v17 v18 v19 v20 v31 v50 v51 v52 v53 v65 => v20)
def c69_9 (C : Callee) : Cd V20 := fun v S κ => (V20.casesOn v fun v0 v1 v2 v3 v4 v6 v8 v10 v12 v13 v17 v18 v19 v20 v31 v50 v51 v52 v53 v65 => 
  kIad 10 v17 v19 S fun v66 S66 =>
  kLd (some 10) v66 S66 fun v67 S67 =>
  kNew 28 10 [.int .i64 0, .int .i64 0, .string ⟨#[]⟩, .string ⟨#[]⟩, .bool false, .int .i64 0, .int .i64 0, .string ⟨#[]⟩, .slice none 0 0, .slice none 0 0] S67 fun v68 S68 =>
  kSt 10 v68 v67 S68 fun v69 S69 =>
  κ .normal (V20.mk v0 v1 v2 v3 v4 v68 v8 v10 v12 v13 v17 v18 v19 v20 v31 v50 v51 v52 v53 v65) S69)
def c69_10 (C : Callee) : Cd V20 := fun v S κ => (V20.casesOn v fun v0 v1 v2 v3 v4 v6 v8 v10 v12 v13 v17 v18 v19 v20 v31 v50 v51 v52 v53 v65 => 
  kLd (some 3) v3 S fun v66 S66 =>
  kFad 0 v6 S66 fun v67 S67 =>
  kLd none v67 S67 fun v68 S68 =>
  kCall C 68 [v66, v68] S68 fun v69 S69 =>
  kExt 0 v69 S69 fun v70 S70 =>
  kExt 1 v69 S70 fun v71 S71 =>
  kNew 28 10 [.int .i64 0, .int .i64 0, .string ⟨#[]⟩, .string ⟨#[]⟩, .bool false, .int .i64 0, .int .i64 0, .string ⟨#[]⟩, .slice none 0 0, .slice none 0 0] S71 fun v72 S72 =>
  kSt 10 v72 v70 S72 fun v73 S73 =>
  κ .normal (V20.mk v0 v1 v2 v3 v4 v6 v71 v10 v12 v13 v17 v18 v19 v20 v31 v50 v51 v52 v53 v65) S73)
def c69_11 (C : Callee) : Cd V20 := fun v S κ => (V20.casesOn v fun v0 v1 v2 v3 v4 v6 v8 v10 v12 v13 v17 v18 v19 v20 v31 v50 v51 v52 v53 v65 => 
  kUn .not v8 S fun v66 S66 =>
  κ .normal (V20.mk v0 v1 v2 v3 v4 v6 v8 v10 v12 v13 v17 v18 v19 v20 v66 v50 v51 v52 v53 v65) S66)
def c69_12 : V20 → Value := fun v => (V20.casesOn v fun v0 v1 v2 v3 v4 v6 v8 v10 v12 v13 v17 v18 v19 v20 v31 v50 v51 v52 v53 v65 => v31)
def c69_13 (C : Callee) : Cd V20 := fun v S κ => (V20.casesOn v fun v0 v1 v2 v3 v4 v6 v8 v10 v12 v13 v17 v18 v19 v20 v31 v50 v51 v52 v53 v65 => 
  κ .normal (V20.mk v0 v1 v2 v3 (.bool false) v6 v8 v10 v12 v13 v17 v18 v19 v20 v31 v50 v51 v52 v53 v65) S)
def c69_14 (C : Callee) : Cd V20 := fun v S κ => (V20.casesOn v fun v0 v1 v2 v3 v4 v6 v8 v10 v12 v13 v17 v18 v19 v20 v31 v50 v51 v52 v53 v65 => 
  kBin .add v19 (.int .i64 1) S fun v66 S66 =>
  κ .normal (V20.mk v0 v1 v2 v3 v4 v6 v8 v10 v12 v13 v17 v18 v66 v20 v31 v50 v51 v52 v53 v65) S66)
def c69_15 (C : Callee) (n : Nat) : Cd V20 := seqK (c69_7 C) (seqK (condK c69_8 (skipK) (exitK 1)) (seqK (blockK 2 (seqK (c69_9 C) (seqK (c69_10 C) (seqK (c69_11 C) (condK c69_12 (seqK (c69_13 C) (retK)) (skipK)))))) (c69_14 C)))
def c69_16 (C : Callee) : Cd V20 := fun v S κ => (V20.casesOn v fun v0 v1 v2 v3 v4 v6 v8 v10 v12 v13 v17 v18 v19 v20 v31 v50 v51 v52 v53 v65 => 
  kFad 0 v3 S fun v66 S66 =>
  kLd none v66 S66 fun v67 S67 =>
  kBin .eql v67 (.int .i64 5) S67 fun v68 S68 =>
  bl v68 fun b => cond b
   (kLd (some 3) v2 S68 fun v69 S69 =>
   kCall C 89 [v69] S69 fun v70 S70 =>
   bl v70 fun b => cond b
    (κ .normal (V20.mk v0 v1 v2 v3 (.bool true) v6 v8 v10 v12 v13 v17 v18 v19 v20 v31 v50 v51 v52 v53 v65) S70)
    (kFad 0 v3 S70 fun v71 S71 =>
    kLd none v71 S71 fun v72 S72 =>
    kBin .eql v72 (.int .i64 8) S72 fun v73 S73 =>
    bl v73 fun b => cond b
     (kLd (some 3) v2 S73 fun v74 S74 =>
     kCall C 90 [v74] S74 fun v75 S75 =>
     κ .normal (V20.mk v0 v1 v2 v3 v75 v6 v8 v10 v12 v13 v17 v18 v19 v20 v31 v50 v51 v52 v53 v65) S75)
     (κ .normal (V20.mk v0 v1 v2 v3 (.bool false) v6 v8 v10 v12 v13 v17 v18 v19 v20 v31 v50 v51 v52 v53 v65) S73)))
   (kFad 0 v3 S68 fun v69 S69 =>
   kLd none v69 S69 fun v70 S70 =>
   kBin .eql v70 (.int .i64 8) S70 fun v71 S71 =>
   bl v71 fun b => cond b
    (kLd (some 3) v2 S71 fun v72 S72 =>
    kCall C 90 [v72] S72 fun v73 S73 =>
    κ .normal (V20.mk v0 v1 v2 v3 v73 v6 v8 v10 v12 v13 v17 v18 v19 v20 v31 v50 v51 v52 v53 v65) S73)
    (κ .normal (V20.mk v0 v1 v2 v3 (.bool false) v6 v8 v10 v12 v13 v17 v18 v19 v20 v31 v50 v51 v52 v53 v65) S71)))
def c69_17 (C : Callee) : Cd V20 := fun v S κ => (V20.casesOn v fun v0 v1 v2 v3 v4 v6 v8 v10 v12 v13 v17 v18 v19 v20 v31 v50 v51 v52 v53 v65 => 
  kFad 2 v3 S fun v66 S66 =>
  kLd none v66 S66 fun v67 S67 =>
  kLen false v67 S67 fun v68 S68 =>
  κ .normal (V20.mk v0 v1 v2 v3 v4 v6 v8 v10 v12 v13 v17 v18 v19 v20 v31 v67 v68 (.int .i64 0) v53 v65) S68)
def c69_18 (C : Callee) : Cd V20 := fun v S κ => (V20.casesOn v fun v0 v1 v2 v3 v4 v6 v8 v10 v12 v13 v17 v18 v19 v20 v31 v50 v51 v52 v53 v65 => 
  kBin .lss v52 v51 S fun v66 S66 =>
  κ .normal (V20.mk v0 v1 v2 v3 v4 v6 v8 v10 v12 v13 v17 v18 v19 v20 v31 v50 v51 v52 v66 v65) S66)
def c69_19 : V20 → Value := fun v => (V20.casesOn v fun v0 v1 v2 v3 v4 v6 v8 v10 v12 v13 v17 v18 v19 v20 v31 v50 v51 v52 v53 v65 => v53)
def c69_20 (C : Callee) : Cd V20 := fun v S κ => (V20.casesOn v fun v0 v1 v2 v3 v4 v6 v8 v10 v12 v13 v17 v18 v19 v20 v31 v50 v51 v52 v53 v65 => 
  kIad 10 v50 v52 S fun v66 S66 =>
  kLd (some 10) v66 S66 fun v67 S67 =>
  kNew 28 10 [.int .i64 0, .int .i64 0, .string ⟨#[]⟩, .string ⟨#[]⟩, .bool false, .int .i64 0, .int .i64 0, .string ⟨#[]⟩, .slice none 0 0, .slice none 0 0] S67 fun v68 S68 =>
  kSt 10 v68 v67 S68 fun v69 S69 =>
  κ .normal (V20.mk v0 v1 v2 v3 v4 v6 v8 v68 v12 v13 v17 v18 v19 v20 v31 v50 v51 v52 v53 v65) S69)
def c69_21 (C : Callee) : Cd V20 := fun v S κ => (V20.casesOn v fun v0 v1 v2 v3 v4 v6 v8 v10 v12 v13 v17 v18 v19 v20 v31 v50 v51 v52 v53 v65 => 
  kFad 1 v10 S fun v66 S66 =>
  kLd none v66 S66 fun v67 S67 =>
  kBin .eql v67 (.int .i64 1) S67 fun v68 S68 =>
  bl v68 fun b => cond b
   (kLd (some 3) v2 S68 fun v69 S69 =>
   kFad 0 v10 S69 fun v70 S70 =>
   kLd none v70 S70 fun v71 S71 =>
   kCall C 91 [v69, v71] S71 fun v72 S72 =>
   kUn .not v72 S72 fun v73 S73 =>
   κ .normal (V20.mk v0 v1 v2 v3 v4 v6 v8 v10 v12 v13 v17 v18 v19 v20 v31 v50 v51 v52 v53 v73) S73)
   (κ .normal (V20.mk v0 v1 v2 v3 v4 v6 v8 v10 v12 v13 v17 v18 v19 v20 v31 v50 v51 v52 v53 (.bool false)) S68))
def c69_22 : V20 → Value := fun v => (V20.casesOn v fun v0 v1 v2 v3 v4 v6 v8 v10 v12 v13 v17 v18 v19 v20 v31 v50 v51 v52 v53 v65 => v65)
def c69_23 (C : Callee) : Cd V20 := fun v S κ => (V20.casesOn v fun v0 v1 v2 v3 v4 v6 v8 v10 v12 v13 v17 v18 v19 v20 v31 v50 v51 v52 v53 v65 => 
  κ .normal (V20.mk v0 v1 v2 v3 (.bool false) v6 v8 v10 v12 v13 v17 v18 v19 v20 v31 v50 v51 v52 v53 v65) S)
def c69_24 (C : Callee) : Cd V20 := fun v S κ => (V20.casesOn v fun v0 v1 v2 v3 v4 v6 v8 v10 v12 v13 v17 v18 v19 v20 v31 v50 v51 v52 v53 v65 => 
  kBin .add v52 (.int .i64 1) S fun v66 S66 =>
  κ .normal (V20.mk v0 v1 v2 v3 v4 v6 v8 v10 v12 v13 v17 v18 v19 v20 v31 v50 v51 v66 v53 v65) S66)
def c69_25 (C : Callee) (n : Nat) : Cd V20 := seqK (c69_18 C) (seqK (condK c69_19 (skipK) (exitK 3)) (seqK (blockK 4 (seqK (c69_20 C) (seqK (c69_21 C) (condK c69_22 (seqK (c69_23 C) (retK)) (skipK))))) (c69_24 C)))
def c69_26 (C : Callee) : Cd V20 := fun v S κ => (V20.casesOn v fun v0 v1 v2 v3 v4 v6 v8 v10 v12 v13 v17 v18 v19 v20 v31 v50 v51 v52 v53 v65 => 
  κ .normal (V20.mk v0 v1 v2 v3 (.bool true) v6 v8 v10 v12 v13 v17 v18 v19 v20 v31 v50 v51 v52 v53 v65) S)
/-- assayer/pair.Shape -/
def c69 (C : Callee) (n : Nat) : Cd V20 := seqK (c69_0 C) (seqK (seqK (c69_1 C) (blockK 0 (seqK (seqK (c69_2 C) (condK c69_3 (skipK) (c69_4 C))) (condK c69_5 (seqK (seqK (c69_6 C) (blockK 1 (loopK n (c69_15 C n)))) (seqK (c69_16 C) (retK))) (skipK))))) (seqK (seqK (c69_17 C) (blockK 3 (loopK n (c69_25 C n)))) (seqK (c69_26 C) (retK))))
def r69 (v : V20) (S : AW) : R := (V20.casesOn v fun v0 v1 v2 v3 v4 v6 v8 v10 v12 v13 v17 v18 v19 v20 v31 v50 v51 v52 v53 v65 => some (v4, S))
def g69 (C : Callee) (n : Nat) (args : List Value) (S : AW) : R := c69 C n (V20.mk (argV args 0) (argV args 1) (argV args 2) (argV args 3) (argV args 4) (argV args 6) (argV args 8) (argV args 10) (argV args 12) (argV args 13) (argV args 17) (argV args 18) (argV args 19) (argV args 20) (argV args 31) (argV args 50) (argV args 51) (argV args 52) (argV args 53) (argV args 65)) S fun o v S => EX.casesOn o (r69 v S) (fun _ => none) (r69 v S)
/-! assayer/kind.May -/
def c70_0 (C : Callee) : Cd V3 := fun v S κ => (V3.casesOn v fun v0 v2 v3 => 
  κ .normal (V3.mk v0 (.bool false) v3) S)
def c70_1 (C : Callee) : Cd V3 := fun v S κ => (V3.casesOn v fun v0 v2 v3 => 
  kCall C 92 [v0] S fun v4 S4 =>
  kExt 0 v4 S4 fun v5 S5 =>
  kExt 1 v4 S5 fun v6 S6 =>
  kExt 2 v4 S6 fun v7 S7 =>
  κ .normal (V3.mk v0 v2 v5) S7)
def c70_2 (C : Callee) : Cd V3 := fun v S κ => (V3.casesOn v fun v0 v2 v3 => 
  kNilc v3 S fun v4 S4 =>
  kFad 2 v4 S4 fun v5 S5 =>
  kLd none v5 S5 fun v6 S6 =>
  kBin .eql v6 (.int .i64 0) S6 fun v7 S7 =>
  κ .normal (V3.mk v0 v7 v3) S7)
/-- assayer/kind.May -/
def c70 (C : Callee) (n : Nat) : Cd V3 := seqK (c70_0 C) (seqK (c70_1 C) (seqK (c70_2 C) (retK)))
def r70 (v : V3) (S : AW) : R := (V3.casesOn v fun v0 v2 v3 => some (v2, S))
def g70 (C : Callee) (n : Nat) (args : List Value) (S : AW) : R := c70 C n (V3.mk (argV args 0) (argV args 2) (argV args 3)) S fun o v S => EX.casesOn o (r70 v S) (fun _ => none) (r70 v S)
/-! slices.ContainsFunc[[]string,string] -/
def c71_0 (C : Callee) : Cd V3 := fun v S κ => (V3.casesOn v fun v0 v1 v4 => 
  κ .normal (V3.mk v0 v1 (.bool false)) S)
def c71_1 (C : Callee) : Cd V3 := fun v S κ => (V3.casesOn v fun v0 v1 v4 => 
  kCall C 93 [v0, v1] S fun v5 S5 =>
  kBin .geq v5 (.int .i64 0) S5 fun v6 S6 =>
  κ .normal (V3.mk v0 v1 v6) S6)
/-- slices.ContainsFunc[[]string,string] -/
def c71 (C : Callee) (n : Nat) : Cd V3 := seqK (c71_0 C) (seqK (c71_1 C) (retK))
def r71 (v : V3) (S : AW) : R := (V3.casesOn v fun v0 v1 v4 => some (v4, S))
def g71 (C : Callee) (n : Nat) (args : List Value) (S : AW) : R := c71 C n (V3.mk (argV args 0) (argV args 1) (argV args 4)) S fun o v S => EX.casesOn o (r71 v S) (fun _ => none) (r71 v S)
/-! assayer/kind.Names -/
def c72_0 (C : Callee) : Cd V4 := fun v S κ => (V4.casesOn v fun v0 v2 v3 v16 => 
  κ .normal (V4.mk v0 (.slice none 0 0) v3 v16) S)
def c72_1 (C : Callee) : Cd V4 := fun v S κ => (V4.casesOn v fun v0 v2 v3 v16 => 
  kCall C 92 [v0] S fun v17 S17 =>
  kExt 0 v17 S17 fun v18 S18 =>
  kExt 1 v17 S18 fun v19 S19 =>
  kExt 2 v17 S19 fun v20 S20 =>
  κ .normal (V4.mk v0 v2 v18 v16) S20)
def c72_2 (C : Callee) : Cd V4 := fun v S κ => (V4.casesOn v fun v0 v2 v3 v16 => 
  kNilc v3 S fun v17 S17 =>
  kFad 2 v17 S17 fun v18 S18 =>
  kLd none v18 S18 fun v19 S19 =>
  kBin .neq v19 (.int .i64 0) S19 fun v20 S20 =>
  κ .normal (V4.mk v0 v2 v3 v20) S20)
def c72_3 : V4 → Value := fun v => (V4.casesOn v fun v0 v2 v3 v16 => v16)
def c72_4 (C : Callee) : Cd V4 := fun v S κ => (V4.casesOn v fun v0 v2 v3 v16 => 
  κ .normal (V4.mk v0 (.slice none 0 0) v3 v16) S)
def c72_5 (C : Callee) : Cd V4 := fun v S κ => (V4.casesOn v fun v0 v2 v3 v16 => 
  kNilc v3 S fun v17 S17 =>
  kFad 3 v17 S17 fun v18 S18 =>
  kLd none v18 S18 fun v19 S19 =>
  κ .normal (V4.mk v0 v19 v3 v16) S19)
/-- assayer/kind.Names -/
def c72 (C : Callee) (n : Nat) : Cd V4 := seqK (c72_0 C) (seqK (c72_1 C) (seqK (seqK (c72_2 C) (condK c72_3 (seqK (c72_4 C) (retK)) (skipK))) (seqK (c72_5 C) (retK))))
def r72 (v : V4) (S : AW) : R := (V4.casesOn v fun v0 v2 v3 v16 => some (v2, S))
def g72 (C : Callee) (n : Nat) (args : List Value) (S : AW) : R := c72 C n (V4.mk (argV args 0) (argV args 2) (argV args 3) (argV args 16)) S fun o v S => EX.casesOn o (r72 v S) (fun _ => none) (r72 v S)
/-! assayer/pair.known$1 -/
def c73_0 (C : Callee) : Cd V3 := fun v S κ => (V3.casesOn v fun v0 v1 v3 => 
  κ .normal (V3.mk v0 v1 (.bool false)) S)
def c73_1 (C : Callee) : Cd V3 := fun v S κ => (V3.casesOn v fun v0 v1 v3 => 
  kLd (some 3) v1 S fun v4 S4 =>
  kCall C 74 [v4, v0] S4 fun v5 S5 =>
  kBin .eql v5 (.int .i64 0) S5 fun v6 S6 =>
  κ .normal (V3.mk v0 v1 v6) S6)
/-- assayer/pair.known$1 -/
def c73 (C : Callee) (n : Nat) : Cd V3 := seqK (c73_0 C) (seqK (c73_1 C) (retK))
def r73 (v : V3) (S : AW) : R := (V3.casesOn v fun v0 v1 v3 => some (v3, S))
def g73 (C : Callee) (n : Nat) (args : List Value) (S : AW) : R := c73 C n (V3.mk (argV args 0) (argV args 1) (argV args 3)) S fun o v S => EX.casesOn o (r73 v S) (fun _ => none) (r73 v S)
/-! assayer/value.Kind -/
def c74_0 (C : Callee) : Cd V12 := fun v S κ => (V12.casesOn v fun v0 v1 v2 v4 v5 v6 v9 v11 v13 v27 v35 v42 => 
  kBox 38 3 v0 S fun v43 S43 =>
  κ .normal (V12.mk v0 v1 v43 (.int .i64 0) v5 v6 v9 v11 v13 v27 v35 v42) S43)
def c74_1 (C : Callee) : Cd V12 := fun v S κ => (V12.casesOn v fun v0 v1 v2 v4 v5 v6 v9 v11 v13 v27 v35 v42 => 
  kCall C 76 [v1] S fun v43 S43 =>
  kExt 0 v43 S43 fun v44 S44 =>
  kExt 1 v43 S44 fun v45 S45 =>
  kExt 2 v43 S45 fun v46 S46 =>
  kExt 3 v43 S46 fun v47 S47 =>
  kExt 4 v43 S47 fun v48 S48 =>
  κ .normal (V12.mk v0 v1 v2 v4 v44 v45 v48 v11 v13 v27 v35 v42) S48)
def c74_2 (C : Callee) : Cd V12 := fun v S κ => (V12.casesOn v fun v0 v1 v2 v4 v5 v6 v9 v11 v13 v27 v35 v42 => 
  kBin .neq v9 (.int .i64 0) S fun v43 S43 =>
  bl v43 fun b => cond b
   (κ .normal (V12.mk v0 v1 v2 v4 v5 v6 v9 v11 v13 (.bool true) v35 v42) S43)
   (kBin .neq v5 (.int .i64 0) S43 fun v44 S44 =>
   κ .normal (V12.mk v0 v1 v2 v4 v5 v6 v9 v11 v13 v44 v35 v42) S44))
def c74_3 : V12 → Value := fun v => (V12.casesOn v fun v0 v1 v2 v4 v5 v6 v9 v11 v13 v27 v35 v42 => v27)
def c74_4 (C : Callee) : Cd V12 := fun v S κ => (V12.casesOn v fun v0 v1 v2 v4 v5 v6 v9 v11 v13 v27 v35 v42 => 
  κ .normal (V12.mk v0 v1 v2 v5 v5 v6 v9 v11 v13 v27 v35 v42) S)
def c74_5 (C : Callee) : Cd V12 := fun v S κ => (V12.casesOn v fun v0 v1 v2 v4 v5 v6 v9 v11 v13 v27 v35 v42 => 
  kLd (some 3) v2 S fun v43 S43 =>
  kCall C 86 [v43, v6] S43 fun v44 S44 =>
  kExt 0 v44 S44 fun v45 S45 =>
  kExt 1 v44 S45 fun v46 S46 =>
  kNew 32 3 [.int .i64 0, .string ⟨#[]⟩, .slice none 0 0] S46 fun v47 S47 =>
  kSt 3 v47 v45 S47 fun v48 S48 =>
  κ .normal (V12.mk v0 v1 v2 v4 v5 v6 v9 v46 v13 v27 v35 v42) S48)
def c74_6 (C : Callee) : Cd V12 := fun v S κ => (V12.casesOn v fun v0 v1 v2 v4 v5 v6 v9 v11 v13 v27 v35 v42 => 
  κ .normal (V12.mk v0 v1 v2 v4 v5 v6 v9 v11 v13 v27 v11 v42) S)
def c74_7 : V12 → Value := fun v => (V12.casesOn v fun v0 v1 v2 v4 v5 v6 v9 v11 v13 v27 v35 v42 => v35)
def c74_8 (C : Callee) : Cd V12 := fun v S κ => (V12.casesOn v fun v0 v1 v2 v4 v5 v6 v9 v11 v13 v27 v35 v42 => 
  κ .normal (V12.mk v0 v1 v2 (.int .i64 12) v5 v6 v9 v11 v13 v27 v35 v42) S)
def c74_9 (C : Callee) : Cd V12 := fun v S κ => (V12.casesOn v fun v0 v1 v2 v4 v5 v6 v9 v11 v13 v27 v35 v42 => 
  kLd (some 3) v2 S fun v43 S43 =>
  kCall C 94 [v43, v6] S43 fun v44 S44 =>
  kExt 0 v44 S44 fun v45 S45 =>
  kExt 1 v44 S45 fun v46 S46 =>
  kNew 140 2 [.string ⟨#[]⟩, .slice none 0 0] S46 fun v47 S47 =>
  kSt 2 v47 v45 S47 fun v48 S48 =>
  κ .normal (V12.mk v0 v1 v2 v4 v5 v6 v9 v11 v46 v27 v35 v42) S48)
def c74_10 (C : Callee) : Cd V12 := fun v S κ => (V12.casesOn v fun v0 v1 v2 v4 v5 v6 v9 v11 v13 v27 v35 v42 => 
  κ .normal (V12.mk v0 v1 v2 v4 v5 v6 v9 v11 v13 v27 v35 v13) S)
def c74_11 : V12 → Value := fun v => (V12.casesOn v fun v0 v1 v2 v4 v5 v6 v9 v11 v13 v27 v35 v42 => v42)
def c74_12 (C : Callee) : Cd V12 := fun v S κ => (V12.casesOn v fun v0 v1 v2 v4 v5 v6 v9 v11 v13 v27 v35 v42 => 
  κ .normal (V12.mk v0 v1 v2 (.int .i64 17) v5 v6 v9 v11 v13 v27 v35 v42) S)
def c74_13 (C : Callee) : Cd V12 := fun v S κ => (V12.casesOn v fun v0 v1 v2 v4 v5 v6 v9 v11 v13 v27 v35 v42 => 
  κ .normal (V12.mk v0 v1 v2 (.int .i64 0) v5 v6 v9 v11 v13 v27 v35 v42) S)
/-- assayer/value.Kind -/
def c74 (C : Callee) (n : Nat) : Cd V12 := seqK (c74_0 C) (seqK (c74_1 C) (seqK (seqK (c74_2 C) (condK c74_3 (seqK (c74_4 C) (retK)) (skipK))) (seqK (seqK (c74_5 C) (seqK (c74_6 C) (condK c74_7 (seqK (c74_8 C) (retK)) (skipK)))) (seqK (seqK (c74_9 C) (seqK (c74_10 C) (condK c74_11 (seqK (c74_12 C) (retK)) (skipK)))) (seqK (c74_13 C) (retK))))))
def r74 (v : V12) (S : AW) : R := (V12.casesOn v fun v0 v1 v2 v4 v5 v6 v9 v11 v13 v27 v35 v42 => some (v4, S))
def g74 (C : Callee) (n : Nat) (args : List Value) (S : AW) : R := c74 C n (V12.mk (argV args 0) (argV args 1) (argV args 2) (argV args 4) (argV args 5) (argV args 6) (argV args 9) (argV args 11) (argV args 13) (argV args 27) (argV args 35) (argV args 42)) S fun o v S => EX.casesOn o (r74 v S) (fun _ => none) (r74 v S)
/-! (*assayer/pair.Solver).types -/
def c75_0 (C : Callee) : Cd V15 := fun v S κ => (V15.casesOn v fun v0 v1 v2 v6 v8 v9 v10 v13 v14 v15 v34 v51 v52 v59 v69 => 
  kNilc v0 S fun v70 S70 =>
  kFad 0 v70 S70 fun v71 S71 =>
  kLd (some 3) v71 S71 fun v72 S72 =>
  kCall C 74 [v72, v1] S72 fun v73 S73 =>
  κ .normal (V15.mk v0 v1 v2 v73 v8 v9 v10 v13 v14 v15 v34 v51 v52 v59 v69) S73)
def c75_1 (C : Callee) : Cd V15 := fun v S κ => (V15.casesOn v fun v0 v1 v2 v6 v8 v9 v10 v13 v14 v15 v34 v51 v52 v59 v69 => 
  kBin .eql v6 (.int .i64 0) S fun v70 S70 =>
  bl v70 fun b => cond b
   (κ .normal (V15.mk v0 v1 v2 v6 v8 v9 v10 v13 v14 v15 (.bool true) v51 v52 v59 v69) S70)
   (kNilc v0 S70 fun v71 S71 =>
   kFad 3 v71 S71 fun v72 S72 =>
   kLd (some 3) v72 S72 fun v73 S73 =>
   kCall C 74 [v73, v2] S73 fun v74 S74 =>
   kBin .neq v6 v74 S74 fun v75 S75 =>
   κ .normal (V15.mk v0 v1 v2 v6 v8 v9 v10 v13 v14 v15 v75 v51 v52 v59 v69) S75))
def c75_2 : V15 → Value := fun v => (V15.casesOn v fun v0 v1 v2 v6 v8 v9 v10 v13 v14 v15 v34 v51 v52 v59 v69 => v34)
def c75_3 (C : Callee) : Cd V15 := fun v S κ => (V15.casesOn v fun v0 v1 v2 v6 v8 v9 v10 v13 v14 v15 v34 v51 v52 v59 v69 => 
  kCall C 76 [v1] S fun v70 S70 =>
  kExt 0 v70 S70 fun v71 S71 =>
  kExt 1 v70 S71 fun v72 S72 =>
  kExt 2 v70 S72 fun v73 S73 =>
  kExt 3 v70 S73 fun v74 S74 =>
  kExt 4 v70 S74 fun v75 S75 =>
  κ .normal (V15.mk v0 v1 v2 v6 v72 v73 v74 v13 v14 v15 v34 v51 v52 v59 v69) S75)
def c75_4 (C : Callee) : Cd V15 := fun v S κ => (V15.casesOn v fun v0 v1 v2 v6 v8 v9 v10 v13 v14 v15 v34 v51 v52 v59 v69 => 
  kCall C 76 [v2] S fun v70 S70 =>
  kExt 0 v70 S70 fun v71 S71 =>
  kExt 1 v70 S71 fun v72 S72 =>
  kExt 2 v70 S72 fun v73 S73 =>
  kExt 3 v70 S73 fun v74 S74 =>
  kExt 4 v70 S74 fun v75 S75 =>
  κ .normal (V15.mk v0 v1 v2 v6 v8 v9 v10 v72 v73 v74 v34 v51 v52 v59 v69) S75)
def c75_5 (C : Callee) : Cd V15 := fun v S κ => (V15.casesOn v fun v0 v1 v2 v6 v8 v9 v10 v13 v14 v15 v34 v51 v52 v59 v69 => 
  κ .normal (V15.mk v0 v1 v2 v6 v8 v9 v10 v13 v14 v15 v34 v6 v52 v59 v69) S)
def c75_6 (C : Callee) : Cd V15 := fun v S κ => (V15.casesOn v fun v0 v1 v2 v6 v8 v9 v10 v13 v14 v15 v34 v51 v52 v59 v69 => 
  kBin .eql v51 (.int .i64 15) S fun v70 S70 =>
  κ .normal (V15.mk v0 v1 v2 v6 v8 v9 v10 v13 v14 v15 v34 v51 v70 v59 v69) S70)
def c75_7 : V15 → Value := fun v => (V15.casesOn v fun v0 v1 v2 v6 v8 v9 v10 v13 v14 v15 v34 v51 v52 v59 v69 => v52)
def c75_8 (C : Callee) : Cd V15 := fun v S κ => (V15.casesOn v fun v0 v1 v2 v6 v8 v9 v10 v13 v14 v15 v34 v51 v52 v59 v69 => 
  kBin .eql v51 (.int .i64 14) S fun v70 S70 =>
  κ .normal (V15.mk v0 v1 v2 v6 v8 v9 v10 v13 v14 v15 v34 v51 v70 v59 v69) S70)
def c75_9 : V15 → Value := fun v => (V15.casesOn v fun v0 v1 v2 v6 v8 v9 v10 v13 v14 v15 v34 v51 v52 v59 v69 => v52)
def c75_10 (C : Callee) : Cd V15 := fun v S κ => (V15.casesOn v fun v0 v1 v2 v6 v8 v9 v10 v13 v14 v15 v34 v51 v52 v59 v69 => 
  kCall C 75 [v0, v9, v14] S fun v70 S70 =>
  κ .normal (V15.mk v0 v1 v2 v6 v8 v9 v10 v13 v14 v15 v34 v51 v52 v59 v69) S70)
def c75_11 (C : Callee) : Cd V15 := fun v S κ => (V15.casesOn v fun v0 v1 v2 v6 v8 v9 v10 v13 v14 v15 v34 v51 v52 v59 v69 => 
  kBin .eql v51 (.int .i64 13) S fun v70 S70 =>
  κ .normal (V15.mk v0 v1 v2 v6 v8 v9 v10 v13 v14 v15 v34 v51 v52 v70 v69) S70)
def c75_12 : V15 → Value := fun v => (V15.casesOn v fun v0 v1 v2 v6 v8 v9 v10 v13 v14 v15 v34 v51 v52 v59 v69 => v59)
def c75_13 (C : Callee) : Cd V15 := fun v S κ => (V15.casesOn v fun v0 v1 v2 v6 v8 v9 v10 v13 v14 v15 v34 v51 v52 v59 v69 => 
  kCall C 75 [v0, v9, v14] S fun v70 S70 =>
  κ .normal (V15.mk v0 v1 v2 v6 v8 v9 v10 v13 v14 v15 v34 v51 v52 v59 v69) S70)
def c75_14 (C : Callee) : Cd V15 := fun v S κ => (V15.casesOn v fun v0 v1 v2 v6 v8 v9 v10 v13 v14 v15 v34 v51 v52 v59 v69 => 
  kCall C 75 [v0, v10, v15] S fun v70 S70 =>
  κ .normal (V15.mk v0 v1 v2 v6 v8 v9 v10 v13 v14 v15 v34 v51 v52 v59 v69) S70)
def c75_15 (C : Callee) : Cd V15 := fun v S κ => (V15.casesOn v fun v0 v1 v2 v6 v8 v9 v10 v13 v14 v15 v34 v51 v52 v59 v69 => 
  kBin .eql v51 (.int .i64 12) S fun v70 S70 =>
  κ .normal (V15.mk v0 v1 v2 v6 v8 v9 v10 v13 v14 v15 v34 v51 v52 v59 v70) S70)
def c75_16 : V15 → Value := fun v => (V15.casesOn v fun v0 v1 v2 v6 v8 v9 v10 v13 v14 v15 v34 v51 v52 v59 v69 => v69)
def c75_17 (C : Callee) : Cd V15 := fun v S κ => (V15.casesOn v fun v0 v1 v2 v6 v8 v9 v10 v13 v14 v15 v34 v51 v52 v59 v69 => 
  kBuild [.string ⟨#[]⟩, .string ⟨#[]⟩] [(0, 1, v8), (1, 1, v13)] S fun v70 S70 =>
  kCall C 65 [v0, v70] S70 fun v71 S71 =>
  κ .normal (V15.mk v0 v1 v2 v6 v8 v9 v10 v13 v14 v15 v34 v51 v52 v59 v69) S71)
/-- (*assayer/pair.Solver).types -/
def c75 (C : Callee) (n : Nat) : Cd V15 := seqK (c75_0 C) (seqK (seqK (c75_1 C) (condK c75_2 (retK) (skipK))) (seqK (c75_3 C) (seqK (c75_4 C) (seqK (c75_5 C) (blockK 0 (seqK (seqK (c75_6 C) (condK c75_7 (skipK) (c75_8 C))) (condK c75_9 (c75_10 C) (seqK (c75_11 C) (condK c75_12 (seqK (c75_13 C) (c75_14 C)) (seqK (c75_15 C) (condK c75_16 (c75_17 C) (skipK))))))))))))
def r75 (v : V15) (S : AW) : R := (V15.casesOn v fun v0 v1 v2 v6 v8 v9 v10 v13 v14 v15 v34 v51 v52 v59 v69 => some (.tuple #[], S))
def g75 (C : Callee) (n : Nat) (args : List Value) (S : AW) : R := c75 C n (V15.mk (argV args 0) (argV args 1) (argV args 2) (argV args 6) (argV args 8) (argV args 9) (argV args 10) (argV args 13) (argV args 14) (argV args 15) (argV args 34) (argV args 51) (argV args 52) (argV args 59) (argV args 69)) S fun o v S => EX.casesOn o (r75 v S) (fun _ => none) (r75 v S)
/-! assayer/kind.Head -/
def c76_0 (C : Callee) : Cd V13 := fun v S κ => (V13.casesOn v fun v0 v2 v3 v4 v5 v6 v7 v8 v9 v16 v26 v30 v46 => 
  κ .normal (V13.mk v0 (.int .i64 0) (.string ⟨#[]⟩) (.string ⟨#[]⟩) (.string ⟨#[]⟩) (.int .i64 0) v7 v8 v9 v16 v26 v30 v46) S)
def c76_1 (C : Callee) : Cd V13 := fun v S κ => (V13.casesOn v fun v0 v2 v3 v4 v5 v6 v7 v8 v9 v16 v26 v30 v46 => 
  kCall C 92 [v0] S fun v47 S47 =>
  kExt 0 v47 S47 fun v48 S48 =>
  kExt 1 v47 S48 fun v49 S49 =>
  kExt 2 v47 S49 fun v50 S50 =>
  κ .normal (V13.mk v0 v49 v3 v4 v5 v6 v48 v50 v9 v16 v26 v30 v46) S50)
def c76_2 (C : Callee) : Cd V13 := fun v S κ => (V13.casesOn v fun v0 v2 v3 v4 v5 v6 v7 v8 v9 v16 v26 v30 v46 => 
  kNilc v7 S fun v47 S47 =>
  kFad 2 v47 S47 fun v48 S48 =>
  kLd none v48 S48 fun v49 S49 =>
  kBin .neq v49 (.int .i64 0) S49 fun v50 S50 =>
  κ .normal (V13.mk v0 v2 v3 v4 v5 v6 v7 v8 v9 v50 v26 v30 v46) S50)
def c76_3 : V13 → Value := fun v => (V13.casesOn v fun v0 v2 v3 v4 v5 v6 v7 v8 v9 v16 v26 v30 v46 => v16)
def c76_4 (C : Callee) : Cd V13 := fun v S κ => (V13.casesOn v fun v0 v2 v3 v4 v5 v6 v7 v8 v9 v16 v26 v30 v46 => 
  kNilc v7 S fun v47 S47 =>
  kFad 2 v47 S47 fun v48 S48 =>
  kLd none v48 S48 fun v49 S49 =>
  κ .normal (V13.mk v0 (.int .i64 0) (.string ⟨#[]⟩) (.string ⟨#[]⟩) (.string ⟨#[]⟩) v49 v7 v8 v9 v16 v26 v30 v46) S49)
def c76_5 (C : Callee) : Cd V13 := fun v S κ => (V13.casesOn v fun v0 v2 v3 v4 v5 v6 v7 v8 v9 v16 v26 v30 v46 => 
  kBin .eql v2 (.int .i64 0) S fun v47 S47 =>
  κ .normal (V13.mk v0 v2 v3 v4 v5 v6 v7 v8 v9 v16 v47 v30 v46) S47)
def c76_6 : V13 → Value := fun v => (V13.casesOn v fun v0 v2 v3 v4 v5 v6 v7 v8 v9 v16 v26 v30 v46 => v26)
def c76_7 (C : Callee) : Cd V13 := fun v S κ => (V13.casesOn v fun v0 v2 v3 v4 v5 v6 v7 v8 v9 v16 v26 v30 v46 => 
  κ .normal (V13.mk v0 (.int .i64 0) v0 (.string ⟨#[]⟩) (.string ⟨#[]⟩) (.int .i64 0) v7 v8 v9 v16 v26 v30 v46) S)
def c76_8 (C : Callee) : Cd V13 := fun v S κ => (V13.casesOn v fun v0 v2 v3 v4 v5 v6 v7 v8 v9 v16 v26 v30 v46 => 
  kLen false v8 S fun v47 S47 =>
  kBin .eql v47 (.int .i64 0) S47 fun v48 S48 =>
  κ .normal (V13.mk v0 v2 v3 v4 v5 v6 v7 v8 v9 v16 v26 v48 v46) S48)
def c76_9 : V13 → Value := fun v => (V13.casesOn v fun v0 v2 v3 v4 v5 v6 v7 v8 v9 v16 v26 v30 v46 => v30)
def c76_10 (C : Callee) : Cd V13 := fun v S κ => (V13.casesOn v fun v0 v2 v3 v4 v5 v6 v7 v8 v9 v16 v26 v30 v46 => 
  κ .normal (V13.mk v0 v2 (.string ⟨#[]⟩) (.string ⟨#[]⟩) (.string ⟨#[]⟩) (.int .i64 0) v7 v8 v9 v16 v26 v30 v46) S)
def c76_11 (C : Callee) : Cd V13 := fun v S κ => (V13.casesOn v fun v0 v2 v3 v4 v5 v6 v7 v8 v9 v16 v26 v30 v46 => 
  kCall C 95 [v0, (.int .u8 60)] S fun v47 S47 =>
  kBin .add v47 (.int .i64 1) S47 fun v48 S48 =>
  κ .normal (V13.mk v0 v2 v3 v4 v5 v6 v7 v8 v48 v16 v26 v30 v46) S48)
def c76_12 (C : Callee) : Cd V13 := fun v S κ => (V13.casesOn v fun v0 v2 v3 v4 v5 v6 v7 v8 v9 v16 v26 v30 v46 => 
  kIad 1 v8 (.int .i64 0) S fun v47 S47 =>
  kLd none v47 S47 fun v48 S48 =>
  kSlS v0 (some v9) (some v48) S48 fun v49 S49 =>
  κ .normal (V13.mk v0 v2 v3 v49 v5 v6 v7 v8 v9 v16 v26 v30 v46) S49)
def c76_13 (C : Callee) : Cd V13 := fun v S κ => (V13.casesOn v fun v0 v2 v3 v4 v5 v6 v7 v8 v9 v16 v26 v30 v46 => 
  kLen false v8 S fun v47 S47 =>
  kBin .eql v47 (.int .i64 2) S47 fun v48 S48 =>
  κ .normal (V13.mk v0 v2 v3 v4 v5 v6 v7 v8 v9 v16 v26 v30 v48) S48)
def c76_14 : V13 → Value := fun v => (V13.casesOn v fun v0 v2 v3 v4 v5 v6 v7 v8 v9 v16 v26 v30 v46 => v46)
def c76_15 (C : Callee) : Cd V13 := fun v S κ => (V13.casesOn v fun v0 v2 v3 v4 v5 v6 v7 v8 v9 v16 v26 v30 v46 => 
  kIad 1 v8 (.int .i64 0) S fun v47 S47 =>
  kLd none v47 S47 fun v48 S48 =>
  kBin .add v48 (.int .i64 1) S48 fun v49 S49 =>
  kIad 1 v8 (.int .i64 1) S49 fun v50 S50 =>
  kLd none v50 S50 fun v51 S51 =>
  kSlS v0 (some v49) (some v51) S51 fun v52 S52 =>
  κ .normal (V13.mk v0 v2 v3 v4 v52 v6 v7 v8 v9 v16 v26 v30 v46) S52)
def c76_16 (C : Callee) : Cd V13 := fun v S κ => (V13.casesOn v fun v0 v2 v3 v4 v5 v6 v7 v8 v9 v16 v26 v30 v46 => 
  κ .normal (V13.mk v0 v2 (.string ⟨#[]⟩) v4 v5 (.int .i64 0) v7 v8 v9 v16 v26 v30 v46) S)
/-- assayer/kind.Head -/
def c76 (C : Callee) (n : Nat) : Cd V13 := seqK (c76_0 C) (seqK (c76_1 C) (seqK (blockK 0 (seqK (c76_2 C) (condK c76_3 (seqK (c76_4 C) (retK)) (seqK (c76_5 C) (condK c76_6 (seqK (c76_7 C) (retK)) (seqK (c76_8 C) (condK c76_9 (seqK (c76_10 C) (retK)) (skipK)))))))) (seqK (c76_11 C) (seqK (c76_12 C) (seqK (seqK (c76_13 C) (condK c76_14 (c76_15 C) (skipK))) (seqK (c76_16 C) (retK)))))))
def r76 (v : V13) (S : AW) : R := (V13.casesOn v fun v0 v2 v3 v4 v5 v6 v7 v8 v9 v16 v26 v30 v46 => some (.tuple #[v2, v3, v4, v5, v6], S))
def g76 (C : Callee) (n : Nat) (args : List Value) (S : AW) : R := c76 C n (V13.mk (argV args 0) (argV args 2) (argV args 3) (argV args 4) (argV args 5) (argV args 6) (argV args 7) (argV args 8) (argV args 9) (argV args 16) (argV args 26) (argV args 30) (argV args 46)) S fun o v S => EX.casesOn o (r76 v S) (fun _ => none) (r76 v S)
/-! (*assayer/pair.Solver).enums -/
def c77_0 (C : Callee) : Cd V6 := fun v S κ => (V6.casesOn v fun v0 v1 v2 v6 v7 v9 => 
  κ .normal (V6.mk v0 v1 v2 (.bool false) v7 v9) S)
def c77_1 (C : Callee) : Cd V6 := fun v S κ => (V6.casesOn v fun v0 v1 v2 v6 v7 v9 => 
  kNilc v0 S fun v10 S10 =>
  kFad 0 v10 S10 fun v11 S11 =>
  kLd (some 3) v11 S11 fun v12 S12 =>
  kCall C 94 [v12, v1] S12 fun v13 S13 =>
  kExt 0 v13 S13 fun v14 S14 =>
  kExt 1 v13 S14 fun v15 S15 =>
  kNew 140 2 [.string ⟨#[]⟩, .slice none 0 0] S15 fun v16 S16 =>
  kSt 2 v16 v14 S16 fun v17 S17 =>
  κ .normal (V6.mk v0 v1 v2 v6 v16 v9) S17)
def c77_2 (C : Callee) : Cd V6 := fun v S κ => (V6.casesOn v fun v0 v1 v2 v6 v7 v9 => 
  kNilc v0 S fun v10 S10 =>
  kFad 3 v10 S10 fun v11 S11 =>
  kLd (some 3) v11 S11 fun v12 S12 =>
  kCall C 94 [v12, v2] S12 fun v13 S13 =>
  kExt 0 v13 S13 fun v14 S14 =>
  kExt 1 v13 S14 fun v15 S15 =>
  kNew 140 2 [.string ⟨#[]⟩, .slice none 0 0] S15 fun v16 S16 =>
  kSt 2 v16 v14 S16 fun v17 S17 =>
  κ .normal (V6.mk v0 v1 v2 v6 v7 v16) S17)
def c77_3 (C : Callee) : Cd V6 := fun v S κ => (V6.casesOn v fun v0 v1 v2 v6 v7 v9 => 
  kFad 1 v7 S fun v10 S10 =>
  kLd none v10 S10 fun v11 S11 =>
  kVal (.func (.func 97) #[] #[v9]) S11 fun v12 S12 =>
  kCall C 96 [v11, v12] S12 fun v13 S13 =>
  kUn .not v13 S13 fun v14 S14 =>
  κ .normal (V6.mk v0 v1 v2 v14 v7 v9) S14)
/-- (*assayer/pair.Solver).enums -/
def c77 (C : Callee) (n : Nat) : Cd V6 := seqK (c77_0 C) (seqK (c77_1 C) (seqK (c77_2 C) (seqK (c77_3 C) (retK))))
def r77 (v : V6) (S : AW) : R := (V6.casesOn v fun v0 v1 v2 v6 v7 v9 => some (v6, S))
def g77 (C : Callee) (n : Nat) (args : List Value) (S : AW) : R := c77 C n (V6.mk (argV args 0) (argV args 1) (argV args 2) (argV args 6) (argV args 7) (argV args 9)) S fun o v S => EX.casesOn o (r77 v S) (fun _ => none) (r77 v S)
/-! assayer/value.Struct -/
def c86_0 (C : Callee) : Cd V8 := fun v S κ => (V8.casesOn v fun v0 v1 v2 v3 v4 v5 v6 v12 => 
  kBox 38 3 v0 S fun v13 S13 =>
  kBox 9 1 v1 S13 fun v14 S14 =>
  kNew 32 3 [.int .i64 0, .string ⟨#[]⟩, .slice none 0 0] S14 fun v15 S15 =>
  κ .normal (V8.mk v0 v1 v13 v14 v15 (.bool false) v6 v12) S15)
def c86_1 (C : Callee) : Cd V8 := fun v S κ => (V8.casesOn v fun v0 v1 v2 v3 v4 v5 v6 v12 => 
  kFad 0 v2 S fun v13 S13 =>
  kLd none v13 S13 fun v14 S14 =>
  kVal (.func (.func 103) #[] #[v3]) S14 fun v15 S15 =>
  kCall C 102 [v14, v15] S15 fun v16 S16 =>
  κ .normal (V8.mk v0 v1 v2 v3 v4 v5 v16 v12) S16)
def c86_2 (C : Callee) : Cd V8 := fun v S κ => (V8.casesOn v fun v0 v1 v2 v3 v4 v5 v6 v12 => 
  kBin .lss v6 (.int .i64 0) S fun v13 S13 =>
  κ .normal (V8.mk v0 v1 v2 v3 v4 v5 v6 v13) S13)
def c86_3 : V8 → Value := fun v => (V8.casesOn v fun v0 v1 v2 v3 v4 v5 v6 v12 => v12)
def c86_4 (C : Callee) : Cd V8 := fun v S κ => (V8.casesOn v fun v0 v1 v2 v3 v4 v5 v6 v12 => 
  kBuild [.int .i64 0, .string ⟨#[]⟩, .slice none 0 0] [] S fun v13 S13 =>
  kSt 3 v4 v13 S13 fun v14 S14 =>
  κ .normal (V8.mk v0 v1 v2 v3 v4 (.bool false) v6 v12) S14)
def c86_5 (C : Callee) : Cd V8 := fun v S κ => (V8.casesOn v fun v0 v1 v2 v3 v4 v5 v6 v12 => 
  kFad 0 v2 S fun v13 S13 =>
  kLd none v13 S13 fun v14 S14 =>
  kIad 3 v14 v6 S14 fun v15 S15 =>
  kLd (some 3) v15 S15 fun v16 S16 =>
  kSt 3 v4 v16 S16 fun v17 S17 =>
  κ .normal (V8.mk v0 v1 v2 v3 v4 (.bool true) v6 v12) S17)
/-- assayer/value.Struct -/
def c86 (C : Callee) (n : Nat) : Cd V8 := seqK (c86_0 C) (seqK (c86_1 C) (seqK (seqK (c86_2 C) (condK c86_3 (seqK (c86_4 C) (retK)) (skipK))) (seqK (c86_5 C) (retK))))
def r86 (v : V8) (S : AW) : R := (V8.casesOn v fun v0 v1 v2 v3 v4 v5 v6 v12 => kLd (some 3) v4 S fun r4 _ => some (.tuple #[r4, v5], S))
def g86 (C : Callee) (n : Nat) (args : List Value) (S : AW) : R := c86 C n (V8.mk (argV args 0) (argV args 1) (argV args 2) (argV args 3) (argV args 4) (argV args 5) (argV args 6) (argV args 12)) S fun o v S => EX.casesOn o (r86 v S) (fun _ => none) (r86 v S)
/-! slices.IndexFunc[[]assayer/api.SField,assayer/api.SField] -/
def c87_0 (C : Callee) : Cd V8 := fun v S κ => (V8.casesOn v fun v0 v1 v4 v5 v7 v8 v9 v16 => 
  κ .normal (V8.mk v0 v1 (.int .i64 0) v5 v7 v8 v9 v16) S)
def c87_1 (C : Callee) : Cd V8 := fun v S κ => (V8.casesOn v fun v0 v1 v4 v5 v7 v8 v9 v16 => 
  kLen false v0 S fun v17 S17 =>
  κ .normal (V8.mk v0 v1 v4 v5 v17 (.int .i64 0) v9 v16) S17)
def c87_2 (C : Callee) : Cd V8 := fun v S κ => (V8.casesOn v fun v0 v1 v4 v5 v7 v8 v9 v16 => 
  kBin .lss v8 v7 S fun v17 S17 =>
  κ .normal (V8.mk v0 v1 v4 v5 v7 v8 v17 v16) S17)
def c87_3 : V8 → Value := fun v => (V8.casesOn v fun v0 v1 v4 v5 v7 v8 v9 v16 => v9)
def c87_4 (C : Callee) : Cd V8 := fun v S κ => (V8.casesOn v fun v0 v1 v4 v5 v7 v8 v9 v16 => 
  κ .normal (V8.mk v0 v1 v4 v8 v7 v8 v9 v16) S)
def c87_5 (C : Callee) : Cd V8 := fun v S κ => (V8.casesOn v fun v0 v1 v4 v5 v7 v8 v9 v16 => 
  kIad 10 v0 v5 S fun v17 S17 =>
  kLd (some 10) v17 S17 fun v18 S18 =>
  kCallV C v1 [v18] S18 fun v19 S19 =>
  κ .normal (V8.mk v0 v1 v4 v5 v7 v8 v9 v19) S19)
def c87_6 : V8 → Value := fun v => (V8.casesOn v fun v0 v1 v4 v5 v7 v8 v9 v16 => v16)
def c87_7 (C : Callee) : Cd V8 := fun v S κ => (V8.casesOn v fun v0 v1 v4 v5 v7 v8 v9 v16 => 
  κ .normal (V8.mk v0 v1 v5 v5 v7 v8 v9 v16) S)
def c87_8 (C : Callee) : Cd V8 := fun v S κ => (V8.casesOn v fun v0 v1 v4 v5 v7 v8 v9 v16 => 
  kBin .add v8 (.int .i64 1) S fun v17 S17 =>
  κ .normal (V8.mk v0 v1 v4 v5 v7 v17 v9 v16) S17)
def c87_9 (C : Callee) (n : Nat) : Cd V8 := seqK (c87_2 C) (seqK (condK c87_3 (skipK) (exitK 0)) (seqK (blockK 1 (seqK (c87_4 C) (seqK (c87_5 C) (condK c87_6 (seqK (c87_7 C) (retK)) (skipK))))) (c87_8 C)))
def c87_10 (C : Callee) : Cd V8 := fun v S κ => (V8.casesOn v fun v0 v1 v4 v5 v7 v8 v9 v16 => 
  κ .normal (V8.mk v0 v1 (.int .i64 (-1)) v5 v7 v8 v9 v16) S)
/-- slices.IndexFunc[[]assayer/api.SField,assayer/api.SField] -/
def c87 (C : Callee) (n : Nat) : Cd V8 := seqK (c87_0 C) (seqK (seqK (c87_1 C) (blockK 0 (loopK n (c87_9 C n)))) (seqK (c87_10 C) (retK)))
def r87 (v : V8) (S : AW) : R := (V8.casesOn v fun v0 v1 v4 v5 v7 v8 v9 v16 => some (v4, S))
def g87 (C : Callee) (n : Nat) (args : List Value) (S : AW) : R := c87 C n (V8.mk (argV args 0) (argV args 1) (argV args 4) (argV args 5) (argV args 7) (argV args 8) (argV args 9) (argV args 16)) S fun o v S => EX.casesOn o (r87 v S) (fun _ => none) (r87 v S)
/-! assayer/value.Field$1 -/
def c88_0 (C : Callee) : Cd V4 := fun v S κ => (V4.casesOn v fun v0 v1 v2 v3 => 
  kBox 28 10 v0 S fun v4 S4 =>
  κ .normal (V4.mk v0 v1 v4 (.bool false)) S4)
def c88_1 (C : Callee) : Cd V4 := fun v S κ => (V4.casesOn v fun v0 v1 v2 v3 => 
  kFad 0 v2 S fun v4 S4 =>
  kLd none v4 S4 fun v5 S5 =>
  kLd none v1 S5 fun v6 S6 =>
  kBin .eql v5 v6 S6 fun v7 S7 =>
  κ .normal (V4.mk v0 v1 v2 v7) S7)
/-- assayer/value.Field$1 -/
def c88 (C : Callee) (n : Nat) : Cd V4 := seqK (c88_0 C) (seqK (c88_1 C) (retK))
def r88 (v : V4) (S : AW) : R := (V4.casesOn v fun v0 v1 v2 v3 => some (v3, S))
def g88 (C : Callee) (n : Nat) (args : List Value) (S : AW) : R := c88 C n (V4.mk (argV args 0) (argV args 1) (argV args 2) (argV args 3)) S fun o v S => EX.casesOn o (r88 v S) (fun _ => none) (r88 v S)
/-! assayer/pair.single -/
def c89_0 (C : Callee) : Cd V3 := fun v S κ => (V3.casesOn v fun v0 v1 v2 => 
  kBox 32 3 v0 S fun v3 S3 =>
  κ .normal (V3.mk v0 v3 (.bool false)) S3)
def c89_1 (C : Callee) : Cd V3 := fun v S κ => (V3.casesOn v fun v0 v1 v2 => 
  kFad 0 v1 S fun v3 S3 =>
  kLd none v3 S3 fun v4 S4 =>
  kBin .eql v4 (.int .i64 5) S4 fun v5 S5 =>
  bl v5 fun b => cond b
   (κ .normal (V3.mk v0 v1 (.bool true)) S5)
   (kFad 2 v1 S5 fun v6 S6 =>
   kLd none v6 S6 fun v7 S7 =>
   kLen false v7 S7 fun v8 S8 =>
   kBin .eql v8 (.int .i64 1) S8 fun v9 S9 =>
   bl v9 fun b => cond b
    (kFad 2 v1 S9 fun v10 S10 =>
    kLd none v10 S10 fun v11 S11 =>
    kIad 10 v11 (.int .i64 0) S11 fun v12 S12 =>
    kFad 1 v12 S12 fun v13 S13 =>
    kLd none v13 S13 fun v14 S14 =>
    kBin .eql v14 (.int .i64 1) S14 fun v15 S15 =>
    κ .normal (V3.mk v0 v1 v15) S15)
    (κ .normal (V3.mk v0 v1 (.bool false)) S9)))
/-- assayer/pair.single -/
def c89 (C : Callee) (n : Nat) : Cd V3 := seqK (c89_0 C) (seqK (c89_1 C) (retK))
def r89 (v : V3) (S : AW) : R := (V3.casesOn v fun v0 v1 v2 => some (v2, S))
def g89 (C : Callee) (n : Nat) (args : List Value) (S : AW) : R := c89 C n (V3.mk (argV args 0) (argV args 1) (argV args 2)) S fun o v S => EX.casesOn o (r89 v S) (fun _ => none) (r89 v S)
/-! assayer/pair.few -/
def c90_0 (C : Callee) : Cd V3 := fun v S κ => (V3.casesOn v fun v0 v1 v2 => 
  kBox 32 3 v0 S fun v3 S3 =>
  κ .normal (V3.mk v0 v3 (.bool false)) S3)
def c90_1 (C : Callee) : Cd V3 := fun v S κ => (V3.casesOn v fun v0 v1 v2 => 
  kFad 0 v1 S fun v3 S3 =>
  kLd none v3 S3 fun v4 S4 =>
  kBin .eql v4 (.int .i64 5) S4 fun v5 S5 =>
  bl v5 fun b => cond b
   (κ .normal (V3.mk v0 v1 (.bool true)) S5)
   (kFad 0 v1 S5 fun v6 S6 =>
   kLd none v6 S6 fun v7 S7 =>
   kBin .eql v7 (.int .i64 8) S7 fun v8 S8 =>
   bl v8 fun b => cond b
    (κ .normal (V3.mk v0 v1 (.bool true)) S8)
    (kFad 2 v1 S8 fun v9 S9 =>
    kLd none v9 S9 fun v10 S10 =>
    kLen false v10 S10 fun v11 S11 =>
    kBin .leq v11 (.int .i64 1) S11 fun v12 S12 =>
    κ .normal (V3.mk v0 v1 v12) S12)))
/-- assayer/pair.few -/
def c90 (C : Callee) (n : Nat) : Cd V3 := seqK (c90_0 C) (seqK (c90_1 C) (retK))
def r90 (v : V3) (S : AW) : R := (V3.casesOn v fun v0 v1 v2 => some (v2, S))
def g90 (C : Callee) (n : Nat) (args : List Value) (S : AW) : R := c90 C n (V3.mk (argV args 0) (argV args 1) (argV args 2)) S fun o v S => EX.casesOn o (r90 v S) (fun _ => none) (r90 v S)
/-! assayer/pair.Sure -/
def c91_0 (C : Callee) : Cd V6 := fun v S κ => (V6.casesOn v fun v0 v1 v2 v4 v5 v6 => 
  kBox 32 3 v0 S fun v7 S7 =>
  κ .normal (V6.mk v0 v1 v7 (.bool false) v5 v6) S7)
def c91_1 (C : Callee) : Cd V6 := fun v S κ => (V6.casesOn v fun v0 v1 v2 v4 v5 v6 => 
  kLd (some 3) v2 S fun v7 S7 =>
  kCall C 68 [v7, v1] S7 fun v8 S8 =>
  kExt 0 v8 S8 fun v9 S9 =>
  kExt 1 v8 S9 fun v10 S10 =>
  kNew 28 10 [.int .i64 0, .int .i64 0, .string ⟨#[]⟩, .string ⟨#[]⟩, .bool false, .int .i64 0, .int .i64 0, .string ⟨#[]⟩, .slice none 0 0, .slice none 0 0] S10 fun v11 S11 =>
  kSt 10 v11 v9 S11 fun v12 S12 =>
  κ .normal (V6.mk v0 v1 v2 v4 v11 v10) S12)
def c91_2 (C : Callee) : Cd V6 := fun v S κ => (V6.casesOn v fun v0 v1 v2 v4 v5 v6 => 
  bl v6 fun b => cond b
   (kFad 1 v5 S fun v7 S7 =>
   kLd none v7 S7 fun v8 S8 =>
   kBin .eql v8 (.int .i64 1) S8 fun v9 S9 =>
   bl v9 fun b => cond b
    (κ .normal (V6.mk v0 v1 v2 (.bool true) v5 v6) S9)
    (kFad 0 v2 S9 fun v10 S10 =>
    kLd none v10 S10 fun v11 S11 =>
    kBin .eql v11 (.int .i64 5) S11 fun v12 S12 =>
    bl v12 fun b => cond b
     (kFad 2 v2 S12 fun v13 S13 =>
     kLd none v13 S13 fun v14 S14 =>
     kLen false v14 S14 fun v15 S15 =>
     kBin .eql v15 (.int .i64 1) S15 fun v16 S16 =>
     κ .normal (V6.mk v0 v1 v2 v16 v5 v6) S16)
     (κ .normal (V6.mk v0 v1 v2 (.bool false) v5 v6) S12)))
   (κ .normal (V6.mk v0 v1 v2 (.bool false) v5 v6) S))
/-- assayer/pair.Sure -/
def c91 (C : Callee) (n : Nat) : Cd V6 := seqK (c91_0 C) (seqK (c91_1 C) (seqK (c91_2 C) (retK)))
def r91 (v : V6) (S : AW) : R := (V6.casesOn v fun v0 v1 v2 v4 v5 v6 => some (v4, S))
def g91 (C : Callee) (n : Nat) (args : List Value) (S : AW) : R := c91 C n (V6.mk (argV args 0) (argV args 1) (argV args 2) (argV args 4) (argV args 5) (argV args 6)) S fun o v S => EX.casesOn o (r91 v S) (fun _ => none) (r91 v S)
/-! assayer/kind.read -/
def c92_0 (C : Callee) : Cd V4 := fun v S κ => (V4.casesOn v fun v0 v2 v3 v4 => 
  κ .normal (V4.mk v0 (.pointer none) (.int .i64 0) (.slice none 0 0)) S)
def c92_1 (C : Callee) : Cd V4 := fun v S κ => (V4.casesOn v fun v0 v2 v3 v4 => 
  kBuild [.string ⟨#[]⟩, .int .i64 0, .int .i64 0, .slice none 0 0, .int .i64 0] [(0, 1, v0)] S fun v5 S5 =>
  kBox 136 5 v5 S5 fun v6 S6 =>
  κ .normal (V4.mk v0 v6 v3 v4) S6)
def c92_2 (C : Callee) : Cd V4 := fun v S κ => (V4.casesOn v fun v0 v2 v3 v4 => 
  kCall C 104 [v2, (.int .i64 0)] S fun v5 S5 =>
  kExt 0 v5 S5 fun v6 S6 =>
  kExt 1 v5 S6 fun v7 S7 =>
  κ .normal (V4.mk v0 v2 v6 v7) S7)
def c92_3 (C : Callee) : Cd V4 := fun v S κ => (V4.casesOn v fun v0 v2 v3 v4 => 
  kNilc v2 S fun v5 S5 =>
  kFad 1 v5 S5 fun v6 S6 =>
  kLd none v6 S6 fun v7 S7 =>
  kLen true v0 S7 fun v8 S8 =>
  kBin .lss v7 v8 S8 fun v9 S9 =>
  kCall C 105 [v2, v9, (.int .i64 2)] S9 fun v10 S10 =>
  κ .normal (V4.mk v0 v2 v3 v4) S10)
def c92_4 (C : Callee) : Cd V4 := fun v S κ => (V4.casesOn v fun v0 v2 v3 v4 => 
  κ .normal (V4.mk v0 v2 v3 v4) S)
/-- assayer/kind.read -/
def c92 (C : Callee) (n : Nat) : Cd V4 := seqK (c92_0 C) (seqK (c92_1 C) (seqK (c92_2 C) (seqK (c92_3 C) (seqK (c92_4 C) (retK)))))
def r92 (v : V4) (S : AW) : R := (V4.casesOn v fun v0 v2 v3 v4 => some (.tuple #[v2, v3, v4], S))
def g92 (C : Callee) (n : Nat) (args : List Value) (S : AW) : R := c92 C n (V4.mk (argV args 0) (argV args 2) (argV args 3) (argV args 4)) S fun o v S => EX.casesOn o (r92 v S) (fun _ => none) (r92 v S)
/-! slices.IndexFunc[[]string,string] -/
def c93_0 (C : Callee) : Cd V8 := fun v S κ => (V8.casesOn v fun v0 v1 v4 v5 v7 v8 v9 v16 => 
  κ .normal (V8.mk v0 v1 (.int .i64 0) v5 v7 v8 v9 v16) S)
def c93_1 (C : Callee) : Cd V8 := fun v S κ => (V8.casesOn v fun v0 v1 v4 v5 v7 v8 v9 v16 => 
  kLen false v0 S fun v17 S17 =>
  κ .normal (V8.mk v0 v1 v4 v5 v17 (.int .i64 0) v9 v16) S17)
def c93_2 (C : Callee) : Cd V8 := fun v S κ => (V8.casesOn v fun v0 v1 v4 v5 v7 v8 v9 v16 => 
  kBin .lss v8 v7 S fun v17 S17 =>
  κ .normal (V8.mk v0 v1 v4 v5 v7 v8 v17 v16) S17)
def c93_3 : V8 → Value := fun v => (V8.casesOn v fun v0 v1 v4 v5 v7 v8 v9 v16 => v9)
def c93_4 (C : Callee) : Cd V8 := fun v S κ => (V8.casesOn v fun v0 v1 v4 v5 v7 v8 v9 v16 => 
  κ .normal (V8.mk v0 v1 v4 v8 v7 v8 v9 v16) S)
def c93_5 (C : Callee) : Cd V8 := fun v S κ => (V8.casesOn v fun v0 v1 v4 v5 v7 v8 v9 v16 => 
  kIad 1 v0 v5 S fun v17 S17 =>
  kLd none v17 S17 fun v18 S18 =>
  kCallV C v1 [v18] S18 fun v19 S19 =>
  κ .normal (V8.mk v0 v1 v4 v5 v7 v8 v9 v19) S19)
def c93_6 : V8 → Value := fun v => (V8.casesOn v fun v0 v1 v4 v5 v7 v8 v9 v16 => v16)
def c93_7 (C : Callee) : Cd V8 := fun v S κ => (V8.casesOn v fun v0 v1 v4 v5 v7 v8 v9 v16 => 
  κ .normal (V8.mk v0 v1 v5 v5 v7 v8 v9 v16) S)
def c93_8 (C : Callee) : Cd V8 := fun v S κ => (V8.casesOn v fun v0 v1 v4 v5 v7 v8 v9 v16 => 
  kBin .add v8 (.int .i64 1) S fun v17 S17 =>
  κ .normal (V8.mk v0 v1 v4 v5 v7 v17 v9 v16) S17)
def c93_9 (C : Callee) (n : Nat) : Cd V8 := seqK (c93_2 C) (seqK (condK c93_3 (skipK) (exitK 0)) (seqK (blockK 1 (seqK (c93_4 C) (seqK (c93_5 C) (condK c93_6 (seqK (c93_7 C) (retK)) (skipK))))) (c93_8 C)))
def c93_10 (C : Callee) : Cd V8 := fun v S κ => (V8.casesOn v fun v0 v1 v4 v5 v7 v8 v9 v16 => 
  κ .normal (V8.mk v0 v1 (.int .i64 (-1)) v5 v7 v8 v9 v16) S)
/-- slices.IndexFunc[[]string,string] -/
def c93 (C : Callee) (n : Nat) : Cd V8 := seqK (c93_0 C) (seqK (seqK (c93_1 C) (blockK 0 (loopK n (c93_9 C n)))) (seqK (c93_10 C) (retK)))
def r93 (v : V8) (S : AW) : R := (V8.casesOn v fun v0 v1 v4 v5 v7 v8 v9 v16 => some (v4, S))
def g93 (C : Callee) (n : Nat) (args : List Value) (S : AW) : R := c93 C n (V8.mk (argV args 0) (argV args 1) (argV args 4) (argV args 5) (argV args 7) (argV args 8) (argV args 9) (argV args 16)) S fun o v S => EX.casesOn o (r93 v S) (fun _ => none) (r93 v S)
/-! assayer/value.Enum -/
def c94_0 (C : Callee) : Cd V8 := fun v S κ => (V8.casesOn v fun v0 v1 v2 v3 v4 v5 v6 v12 => 
  kBox 38 3 v0 S fun v13 S13 =>
  kBox 9 1 v1 S13 fun v14 S14 =>
  kNew 140 2 [.string ⟨#[]⟩, .slice none 0 0] S14 fun v15 S15 =>
  κ .normal (V8.mk v0 v1 v13 v14 v15 (.bool false) v6 v12) S15)
def c94_1 (C : Callee) : Cd V8 := fun v S κ => (V8.casesOn v fun v0 v1 v2 v3 v4 v5 v6 v12 => 
  kFad 1 v2 S fun v13 S13 =>
  kLd none v13 S13 fun v14 S14 =>
  kVal (.func (.func 107) #[] #[v3]) S14 fun v15 S15 =>
  kCall C 106 [v14, v15] S15 fun v16 S16 =>
  κ .normal (V8.mk v0 v1 v2 v3 v4 v5 v16 v12) S16)
def c94_2 (C : Callee) : Cd V8 := fun v S κ => (V8.casesOn v fun v0 v1 v2 v3 v4 v5 v6 v12 => 
  kBin .lss v6 (.int .i64 0) S fun v13 S13 =>
  κ .normal (V8.mk v0 v1 v2 v3 v4 v5 v6 v13) S13)
def c94_3 : V8 → Value := fun v => (V8.casesOn v fun v0 v1 v2 v3 v4 v5 v6 v12 => v12)
def c94_4 (C : Callee) : Cd V8 := fun v S κ => (V8.casesOn v fun v0 v1 v2 v3 v4 v5 v6 v12 => 
  kBuild [.string ⟨#[]⟩, .slice none 0 0] [] S fun v13 S13 =>
  kSt 2 v4 v13 S13 fun v14 S14 =>
  κ .normal (V8.mk v0 v1 v2 v3 v4 (.bool false) v6 v12) S14)
def c94_5 (C : Callee) : Cd V8 := fun v S κ => (V8.casesOn v fun v0 v1 v2 v3 v4 v5 v6 v12 => 
  kFad 1 v2 S fun v13 S13 =>
  kLd none v13 S13 fun v14 S14 =>
  kIad 2 v14 v6 S14 fun v15 S15 =>
  kLd (some 2) v15 S15 fun v16 S16 =>
  kSt 2 v4 v16 S16 fun v17 S17 =>
  κ .normal (V8.mk v0 v1 v2 v3 v4 (.bool true) v6 v12) S17)
/-- assayer/value.Enum -/
def c94 (C : Callee) (n : Nat) : Cd V8 := seqK (c94_0 C) (seqK (c94_1 C) (seqK (seqK (c94_2 C) (condK c94_3 (seqK (c94_4 C) (retK)) (skipK))) (seqK (c94_5 C) (retK))))
def r94 (v : V8) (S : AW) : R := (V8.casesOn v fun v0 v1 v2 v3 v4 v5 v6 v12 => kLd (some 2) v4 S fun r4 _ => some (.tuple #[r4, v5], S))
def g94 (C : Callee) (n : Nat) (args : List Value) (S : AW) : R := c94 C n (V8.mk (argV args 0) (argV args 1) (argV args 2) (argV args 3) (argV args 4) (argV args 5) (argV args 6) (argV args 12)) S fun o v S => EX.casesOn o (r94 v S) (fun _ => none) (r94 v S)
/-! strings.IndexByte -/
def c95_0 (C : Callee) : Cd V3 := fun v S κ => (V3.casesOn v fun v0 v1 v4 => 
  κ .normal (V3.mk v0 v1 (.int .i64 0)) S)
def c95_1 (C : Callee) : Cd V3 := fun v S κ => (V3.casesOn v fun v0 v1 v4 => 
  kCall C 108 [v0, v1] S fun v5 S5 =>
  κ .normal (V3.mk v0 v1 v5) S5)
/-- strings.IndexByte -/
def c95 (C : Callee) (n : Nat) : Cd V3 := seqK (c95_0 C) (seqK (c95_1 C) (retK))
def r95 (v : V3) (S : AW) : R := (V3.casesOn v fun v0 v1 v4 => some (v4, S))
def g95 (C : Callee) (n : Nat) (args : List Value) (S : AW) : R := c95 C n (V3.mk (argV args 0) (argV args 1) (argV args 4)) S fun o v S => EX.casesOn o (r95 v S) (fun _ => none) (r95 v S)
/-! slices.ContainsFunc[[]assayer/api.Member,assayer/api.Member] -/
def c96_0 (C : Callee) : Cd V3 := fun v S κ => (V3.casesOn v fun v0 v1 v4 => 
  κ .normal (V3.mk v0 v1 (.bool false)) S)
def c96_1 (C : Callee) : Cd V3 := fun v S κ => (V3.casesOn v fun v0 v1 v4 => 
  kCall C 109 [v0, v1] S fun v5 S5 =>
  kBin .geq v5 (.int .i64 0) S5 fun v6 S6 =>
  κ .normal (V3.mk v0 v1 v6) S6)
/-- slices.ContainsFunc[[]assayer/api.Member,assayer/api.Member] -/
def c96 (C : Callee) (n : Nat) : Cd V3 := seqK (c96_0 C) (seqK (c96_1 C) (retK))
def r96 (v : V3) (S : AW) : R := (V3.casesOn v fun v0 v1 v4 => some (v4, S))
def g96 (C : Callee) (n : Nat) (args : List Value) (S : AW) : R := c96 C n (V3.mk (argV args 0) (argV args 1) (argV args 4)) S fun o v S => EX.casesOn o (r96 v S) (fun _ => none) (r96 v S)
/-! (*assayer/pair.Solver).enums$1 -/
def c97_0 (C : Callee) : Cd V4 := fun v S κ => (V4.casesOn v fun v0 v1 v2 v3 => 
  kBox 146 3 v0 S fun v4 S4 =>
  κ .normal (V4.mk v0 v1 v4 (.bool false)) S4)
def c97_1 (C : Callee) : Cd V4 := fun v S κ => (V4.casesOn v fun v0 v1 v2 v3 => 
  kLd (some 2) v1 S fun v4 S4 =>
  kFad 2 v2 S4 fun v5 S5 =>
  kLd none v5 S5 fun v6 S6 =>
  kCall C 98 [v4, v6] S6 fun v7 S7 =>
  kUn .not v7 S7 fun v8 S8 =>
  κ .normal (V4.mk v0 v1 v2 v8) S8)
/-- (*assayer/pair.Solver).enums$1 -/
def c97 (C : Callee) (n : Nat) : Cd V4 := seqK (c97_0 C) (seqK (c97_1 C) (retK))
def r97 (v : V4) (S : AW) : R := (V4.casesOn v fun v0 v1 v2 v3 => some (v3, S))
def g97 (C : Callee) (n : Nat) (args : List Value) (S : AW) : R := c97 C n (V4.mk (argV args 0) (argV args 1) (argV args 2) (argV args 3)) S fun o v S => EX.casesOn o (r97 v S) (fun _ => none) (r97 v S)
/-! assayer/pair.Member -/
def c98_0 (C : Callee) : Cd V5 := fun v S κ => (V5.casesOn v fun v0 v1 v2 v3 v4 => 
  kBox 140 2 v0 S fun v5 S5 =>
  kBox 2 1 v1 S5 fun v6 S6 =>
  κ .normal (V5.mk v0 v1 v5 v6 (.bool false)) S6)
def c98_1 (C : Callee) : Cd V5 := fun v S κ => (V5.casesOn v fun v0 v1 v2 v3 v4 => 
  kFad 1 v2 S fun v5 S5 =>
  kLd none v5 S5 fun v6 S6 =>
  kVal (.func (.func 110) #[] #[v3]) S6 fun v7 S7 =>
  kCall C 96 [v6, v7] S7 fun v8 S8 =>
  κ .normal (V5.mk v0 v1 v2 v3 v8) S8)
/-- assayer/pair.Member -/
def c98 (C : Callee) (n : Nat) : Cd V5 := seqK (c98_0 C) (seqK (c98_1 C) (retK))
def r98 (v : V5) (S : AW) : R := (V5.casesOn v fun v0 v1 v2 v3 v4 => some (v4, S))
def g98 (C : Callee) (n : Nat) (args : List Value) (S : AW) : R := c98 C n (V5.mk (argV args 0) (argV args 1) (argV args 2) (argV args 3) (argV args 4)) S fun o v S => EX.casesOn o (r98 v S) (fun _ => none) (r98 v S)
/-! slices.IndexFunc[[]assayer/api.SStruct,assayer/api.SStruct] -/
def c102_0 (C : Callee) : Cd V8 := fun v S κ => (V8.casesOn v fun v0 v1 v4 v5 v7 v8 v9 v16 => 
  κ .normal (V8.mk v0 v1 (.int .i64 0) v5 v7 v8 v9 v16) S)
def c102_1 (C : Callee) : Cd V8 := fun v S κ => (V8.casesOn v fun v0 v1 v4 v5 v7 v8 v9 v16 => 
  kLen false v0 S fun v17 S17 =>
  κ .normal (V8.mk v0 v1 v4 v5 v17 (.int .i64 0) v9 v16) S17)
def c102_2 (C : Callee) : Cd V8 := fun v S κ => (V8.casesOn v fun v0 v1 v4 v5 v7 v8 v9 v16 => 
  kBin .lss v8 v7 S fun v17 S17 =>
  κ .normal (V8.mk v0 v1 v4 v5 v7 v8 v17 v16) S17)
def c102_3 : V8 → Value := fun v => (V8.casesOn v fun v0 v1 v4 v5 v7 v8 v9 v16 => v9)
def c102_4 (C : Callee) : Cd V8 := fun v S κ => (V8.casesOn v fun v0 v1 v4 v5 v7 v8 v9 v16 => 
  κ .normal (V8.mk v0 v1 v4 v8 v7 v8 v9 v16) S)
def c102_5 (C : Callee) : Cd V8 := fun v S κ => (V8.casesOn v fun v0 v1 v4 v5 v7 v8 v9 v16 => 
  kIad 3 v0 v5 S fun v17 S17 =>
  kLd (some 3) v17 S17 fun v18 S18 =>
  kCallV C v1 [v18] S18 fun v19 S19 =>
  κ .normal (V8.mk v0 v1 v4 v5 v7 v8 v9 v19) S19)
def c102_6 : V8 → Value := fun v => (V8.casesOn v fun v0 v1 v4 v5 v7 v8 v9 v16 => v16)
def c102_7 (C : Callee) : Cd V8 := fun v S κ => (V8.casesOn v fun v0 v1 v4 v5 v7 v8 v9 v16 => 
  κ .normal (V8.mk v0 v1 v5 v5 v7 v8 v9 v16) S)
def c102_8 (C : Callee) : Cd V8 := fun v S κ => (V8.casesOn v fun v0 v1 v4 v5 v7 v8 v9 v16 => 
  kBin .add v8 (.int .i64 1) S fun v17 S17 =>
  κ .normal (V8.mk v0 v1 v4 v5 v7 v17 v9 v16) S17)
def c102_9 (C : Callee) (n : Nat) : Cd V8 := seqK (c102_2 C) (seqK (condK c102_3 (skipK) (exitK 0)) (seqK (blockK 1 (seqK (c102_4 C) (seqK (c102_5 C) (condK c102_6 (seqK (c102_7 C) (retK)) (skipK))))) (c102_8 C)))
def c102_10 (C : Callee) : Cd V8 := fun v S κ => (V8.casesOn v fun v0 v1 v4 v5 v7 v8 v9 v16 => 
  κ .normal (V8.mk v0 v1 (.int .i64 (-1)) v5 v7 v8 v9 v16) S)
/-- slices.IndexFunc[[]assayer/api.SStruct,assayer/api.SStruct] -/
def c102 (C : Callee) (n : Nat) : Cd V8 := seqK (c102_0 C) (seqK (seqK (c102_1 C) (blockK 0 (loopK n (c102_9 C n)))) (seqK (c102_10 C) (retK)))
def r102 (v : V8) (S : AW) : R := (V8.casesOn v fun v0 v1 v4 v5 v7 v8 v9 v16 => some (v4, S))
def g102 (C : Callee) (n : Nat) (args : List Value) (S : AW) : R := c102 C n (V8.mk (argV args 0) (argV args 1) (argV args 4) (argV args 5) (argV args 7) (argV args 8) (argV args 9) (argV args 16)) S fun o v S => EX.casesOn o (r102 v S) (fun _ => none) (r102 v S)
/-! assayer/value.Struct$1 -/
def c103_0 (C : Callee) : Cd V4 := fun v S κ => (V4.casesOn v fun v0 v1 v2 v3 => 
  kBox 32 3 v0 S fun v4 S4 =>
  κ .normal (V4.mk v0 v1 v4 (.bool false)) S4)
def c103_1 (C : Callee) : Cd V4 := fun v S κ => (V4.casesOn v fun v0 v1 v2 v3 => 
  kFad 1 v2 S fun v4 S4 =>
  kLd none v4 S4 fun v5 S5 =>
  kLd none v1 S5 fun v6 S6 =>
  kBin .eql v5 v6 S6 fun v7 S7 =>
  κ .normal (V4.mk v0 v1 v2 v7) S7)
/-- assayer/value.Struct$1 -/
def c103 (C : Callee) (n : Nat) : Cd V4 := seqK (c103_0 C) (seqK (c103_1 C) (retK))
def r103 (v : V4) (S : AW) : R := (V4.casesOn v fun v0 v1 v2 v3 => some (v3, S))
def g103 (C : Callee) (n : Nat) (args : List Value) (S : AW) : R := c103 C n (V4.mk (argV args 0) (argV args 1) (argV args 2) (argV args 3)) S fun o v S => EX.casesOn o (r103 v S) (fun _ => none) (r103 v S)
/-! (*assayer/kind.cursor).one -/
def c104_0 (C : Callee) : Cd V14 := fun v S κ => (V14.casesOn v fun v0 v1 v4 v5 v6 v7 v8 v9 v23 v57 v73 v74 v75 v85 => 
  κ .normal (V14.mk v0 v1 (.int .i64 0) (.slice none 0 0) v6 v7 v8 v9 v23 v57 v73 v74 v75 v85) S)
def c104_1 (C : Callee) : Cd V14 := fun v S κ => (V14.casesOn v fun v0 v1 v4 v5 v6 v7 v8 v9 v23 v57 v73 v74 v75 v85 => 
  kNilc v0 S fun v86 S86 =>
  kFad 1 v86 S86 fun v87 S87 =>
  kLd none v87 S87 fun v88 S88 =>
  κ .normal (V14.mk v0 v1 v4 v5 v88 v7 v8 v9 v23 v57 v73 v74 v75 v85) S88)
def c104_2 (C : Callee) : Cd V14 := fun v S κ => (V14.casesOn v fun v0 v1 v4 v5 v6 v7 v8 v9 v23 v57 v73 v74 v75 v85 => 
  kCall C 123 [v0] S fun v86 S86 =>
  kCall C 122 [v86] S86 fun v87 S87 =>
  κ .normal (V14.mk v0 v1 v87 v5 v6 v7 v8 v9 v23 v57 v73 v74 v75 v85) S87)
def c104_3 (C : Callee) : Cd V14 := fun v S κ => (V14.casesOn v fun v0 v1 v4 v5 v6 v7 v8 v9 v23 v57 v73 v74 v75 v85 => 
  kCall C 124 [v0] S fun v86 S86 =>
  κ .normal (V14.mk v0 v1 v4 v5 v6 v86 v8 v9 v23 v57 v73 v74 v75 v85) S86)
def c104_4 (C : Callee) : Cd V14 := fun v S κ => (V14.casesOn v fun v0 v1 v4 v5 v6 v7 v8 v9 v23 v57 v73 v74 v75 v85 => 
  bl v7 fun b => cond b
   (κ .normal (V14.mk v0 v1 v4 v5 v6 v7 v8 v9 (.bool true) v57 v73 v74 v75 v85) S)
   (kBin .eql v4 (.int .i64 0) S fun v86 S86 =>
   κ .normal (V14.mk v0 v1 v4 v5 v6 v7 v8 v9 v86 v57 v73 v74 v75 v85) S86))
def c104_5 : V14 → Value := fun v => (V14.casesOn v fun v0 v1 v4 v5 v6 v7 v8 v9 v23 v57 v73 v74 v75 v85 => v23)
def c104_6 (C : Callee) : Cd V14 := fun v S κ => (V14.casesOn v fun v0 v1 v4 v5 v6 v7 v8 v9 v23 v57 v73 v74 v75 v85 => 
  kBin .neq v4 (.int .i64 0) S fun v86 S86 =>
  kCall C 105 [v0, v86, (.int .i64 2)] S86 fun v87 S87 =>
  κ .normal (V14.mk v0 v1 v4 v5 v6 v7 v8 v9 v23 v57 v73 v74 v75 v85) S87)
def c104_7 (C : Callee) : Cd V14 := fun v S κ => (V14.casesOn v fun v0 v1 v4 v5 v6 v7 v8 v9 v23 v57 v73 v74 v75 v85 => 
  kNilc v0 S fun v86 S86 =>
  kFad 3 v86 S86 fun v87 S87 =>
  kLd none v87 S87 fun v88 S88 =>
  kNilc v0 S88 fun v89 S89 =>
  kFad 0 v89 S89 fun v90 S90 =>
  kLd none v90 S90 fun v91 S91 =>
  kNilc v0 S91 fun v92 S92 =>
  kFad 1 v92 S92 fun v93 S93 =>
  kLd none v93 S93 fun v94 S94 =>
  kSlS v91 (some v6) (some v94) S94 fun v95 S95 =>
  kLit 9 1 [.string ⟨#[]⟩] 1 [(0, 1, v95)] S95 fun v96 S96 =>
  kLd none v93 S96 fun u _ => cond (veqB u v94)
   (kLd none v90 S96 fun u _ => cond (veqB u v91)
    (kLd none v87 S96 fun u _ => cond (veqB u v88)
     (kApp 9 1 16 v88 v96 S96 fun v97 S97 =>
     kNilc v0 S97 fun v98 S98 =>
     kFad 3 v98 S98 fun v99 S99 =>
     kSt 1 v99 v97 S99 fun v100 S100 =>
     κ .normal (V14.mk v0 v1 v4 v5 v6 v7 v8 v9 v23 v57 v73 v74 v75 v85) S100) none) none) none)
def c104_8 (C : Callee) : Cd V14 := fun v S κ => (V14.casesOn v fun v0 v1 v4 v5 v6 v7 v8 v9 v23 v57 v73 v74 v75 v85 => 
  κ .normal (V14.mk v0 v1 (.int .i64 0) (.slice none 0 0) v6 v7 v8 v9 v23 v57 v73 v74 v75 v85) S)
def c104_9 (C : Callee) : Cd V14 := fun v S κ => (V14.casesOn v fun v0 v1 v4 v5 v6 v7 v8 v9 v23 v57 v73 v74 v75 v85 => 
  kCall C 125 [v4] S fun v86 S86 =>
  κ .normal (V14.mk v0 v1 v4 v5 v6 v7 v86 v9 v23 v57 v73 v74 v75 v85) S86)
def c104_10 (C : Callee) : Cd V14 := fun v S κ => (V14.casesOn v fun v0 v1 v4 v5 v6 v7 v8 v9 v23 v57 v73 v74 v75 v85 => 
  kBin .eql v8 (.int .i64 0) S fun v86 S86 =>
  bl v86 fun b => cond b
   (κ .normal (V14.mk v0 v1 v4 v5 v6 v7 v8 v9 v23 (.bool true) v73 v74 v75 v85) S86)
   (kNilc v0 S86 fun v87 S87 =>
   kFad 2 v87 S87 fun v88 S88 =>
   kLd none v88 S88 fun v89 S89 =>
   kBin .neq v89 (.int .i64 0) S89 fun v90 S90 =>
   κ .normal (V14.mk v0 v1 v4 v5 v6 v7 v8 v9 v23 v90 v73 v74 v75 v85) S90))
def c104_11 : V14 → Value := fun v => (V14.casesOn v fun v0 v1 v4 v5 v6 v7 v8 v9 v23 v57 v73 v74 v75 v85 => v57)
def c104_12 (C : Callee) : Cd V14 := fun v S κ => (V14.casesOn v fun v0 v1 v4 v5 v6 v7 v8 v9 v23 v57 v73 v74 v75 v85 => 
  κ .normal (V14.mk v0 v1 v4 (.slice none 0 0) v6 v7 v8 v9 v23 v57 v73 v74 v75 v85) S)
def c104_13 (C : Callee) : Cd V14 := fun v S κ => (V14.casesOn v fun v0 v1 v4 v5 v6 v7 v8 v9 v23 v57 v73 v74 v75 v85 => 
  kBin .geq v1 (.int .i64 12) S fun v86 S86 =>
  kCall C 105 [v0, v86, (.int .i64 6)] S86 fun v87 S87 =>
  κ .normal (V14.mk v0 v1 v4 v5 v6 v7 v8 v9 v23 v57 v73 v74 v75 v85) S87)
def c104_14 (C : Callee) : Cd V14 := fun v S κ => (V14.casesOn v fun v0 v1 v4 v5 v6 v7 v8 v9 v23 v57 v73 v74 v75 v85 => 
  kNilc v0 S fun v86 S86 =>
  kFad 4 v86 S86 fun v87 S87 =>
  kLd none v87 S87 fun v88 S88 =>
  kBin .add v1 (.int .i64 1) S88 fun v89 S89 =>
  kO (mmV true [v88, v89]) S89 fun v90 S90 =>
  kNilc v0 S90 fun v91 S91 =>
  kFad 4 v91 S91 fun v92 S92 =>
  kSt 1 v92 v90 S92 fun v93 S93 =>
  κ .normal (V14.mk v0 v1 v4 v5 v6 v7 v8 v9 v23 v57 v73 v74 v75 v85) S93)
def c104_15 (C : Callee) : Cd V14 := fun v S κ => (V14.casesOn v fun v0 v1 v4 v5 v6 v7 v8 v9 v23 v57 v73 v74 v75 v85 => 
  κ .normal (V14.mk v0 v1 v4 v5 v6 v7 v8 v9 v23 v57 v8 (.int .i64 0) v75 v85) S)
def c104_16 (C : Callee) : Cd V14 := fun v S κ => (V14.casesOn v fun v0 v1 v4 v5 v6 v7 v8 v9 v23 v57 v73 v74 v75 v85 => 
  kBin .lss v74 v73 S fun v86 S86 =>
  κ .normal (V14.mk v0 v1 v4 v5 v6 v7 v8 v9 v23 v57 v73 v74 v86 v85) S86)
def c104_17 : V14 → Value := fun v => (V14.casesOn v fun v0 v1 v4 v5 v6 v7 v8 v9 v23 v57 v73 v74 v75 v85 => v75)
def c104_18 (C : Callee) : Cd V14 := fun v S κ => (V14.casesOn v fun v0 v1 v4 v5 v6 v7 v8 v9 v23 v57 v73 v74 v75 v85 => 
  κ .normal (V14.mk v0 v1 v4 v5 v6 v7 v8 v74 v23 v57 v73 v74 v75 v85) S)
def c104_19 (C : Callee) : Cd V14 := fun v S κ => (V14.casesOn v fun v0 v1 v4 v5 v6 v7 v8 v9 v23 v57 v73 v74 v75 v85 => 
  kIdxS (.string ⟨#[60, 44]⟩) v9 S fun v86 S86 =>
  kCall C 126 [v0, v86] S86 fun v87 S87 =>
  κ .normal (V14.mk v0 v1 v4 v5 v6 v7 v8 v9 v23 v57 v73 v74 v75 v85) S87)
def c104_20 (C : Callee) : Cd V14 := fun v S κ => (V14.casesOn v fun v0 v1 v4 v5 v6 v7 v8 v9 v23 v57 v73 v74 v75 v85 => 
  kNilc v0 S fun v86 S86 =>
  kFad 2 v86 S86 fun v87 S87 =>
  kLd none v87 S87 fun v88 S88 =>
  kBin .eql v88 (.int .i64 0) S88 fun v89 S89 =>
  κ .normal (V14.mk v0 v1 v4 v5 v6 v7 v8 v9 v23 v57 v73 v74 v75 v89) S89)
def c104_21 : V14 → Value := fun v => (V14.casesOn v fun v0 v1 v4 v5 v6 v7 v8 v9 v23 v57 v73 v74 v75 v85 => v85)
def c104_22 (C : Callee) : Cd V14 := fun v S κ => (V14.casesOn v fun v0 v1 v4 v5 v6 v7 v8 v9 v23 v57 v73 v74 v75 v85 => 
  kBin .add v1 (.int .i64 1) S fun v86 S86 =>
  kCall C 104 [v0, v86] S86 fun v87 S87 =>
  κ .normal (V14.mk v0 v1 v4 v5 v6 v7 v8 v9 v23 v57 v73 v74 v75 v85) S87)
def c104_23 (C : Callee) : Cd V14 := fun v S κ => (V14.casesOn v fun v0 v1 v4 v5 v6 v7 v8 v9 v23 v57 v73 v74 v75 v85 => 
  kNilc v0 S fun v86 S86 =>
  kFad 1 v86 S86 fun v87 S87 =>
  kLd none v87 S87 fun v88 S88 =>
  kLit 3 1 [.int .i64 0] 1 [(0, 1, v88)] S88 fun v89 S89 =>
  kApp 3 1 8 v5 v89 S89 fun v90 S90 =>
  κ .normal (V14.mk v0 v1 v4 v90 v6 v7 v8 v9 v23 v57 v73 v74 v75 v85) S90)
def c104_24 (C : Callee) : Cd V14 := fun v S κ => (V14.casesOn v fun v0 v1 v4 v5 v6 v7 v8 v9 v23 v57 v73 v74 v75 v85 => 
  kBin .add v74 (.int .i64 1) S fun v86 S86 =>
  κ .normal (V14.mk v0 v1 v4 v5 v6 v7 v8 v9 v23 v57 v73 v86 v75 v85) S86)
def c104_25 (C : Callee) (n : Nat) : Cd V14 := seqK (c104_16 C) (seqK (condK c104_17 (skipK) (exitK 0)) (seqK (blockK 1 (seqK (c104_18 C) (seqK (c104_19 C) (seqK (seqK (c104_20 C) (condK c104_21 (c104_22 C) (skipK))) (c104_23 C))))) (c104_24 C)))
def c104_26 (C : Callee) : Cd V14 := fun v S κ => (V14.casesOn v fun v0 v1 v4 v5 v6 v7 v8 v9 v23 v57 v73 v74 v75 v85 => 
  kCall C 126 [v0, (.int .u8 62)] S fun v86 S86 =>
  κ .normal (V14.mk v0 v1 v4 v5 v6 v7 v8 v9 v23 v57 v73 v74 v75 v85) S86)
def c104_27 (C : Callee) : Cd V14 := fun v S κ => (V14.casesOn v fun v0 v1 v4 v5 v6 v7 v8 v9 v23 v57 v73 v74 v75 v85 => 
  κ .normal (V14.mk v0 v1 v4 v5 v6 v7 v8 v9 v23 v57 v73 v74 v75 v85) S)
/-- (*assayer/kind.cursor).one -/
def c104 (C : Callee) (n : Nat) : Cd V14 := seqK (c104_0 C) (seqK (c104_1 C) (seqK (c104_2 C) (seqK (seqK (c104_3 C) (seqK (c104_4 C) (condK c104_5 (seqK (c104_6 C) (seqK (c104_7 C) (seqK (c104_8 C) (retK)))) (skipK)))) (seqK (c104_9 C) (seqK (seqK (c104_10 C) (condK c104_11 (seqK (c104_12 C) (retK)) (skipK))) (seqK (c104_13 C) (seqK (c104_14 C) (seqK (seqK (c104_15 C) (blockK 0 (loopK n (c104_25 C n)))) (seqK (c104_26 C) (seqK (c104_27 C) (retK)))))))))))
def r104 (v : V14) (S : AW) : R := (V14.casesOn v fun v0 v1 v4 v5 v6 v7 v8 v9 v23 v57 v73 v74 v75 v85 => some (.tuple #[v4, v5], S))
def g104 (C : Callee) (n : Nat) (args : List Value) (S : AW) : R := c104 C n (V14.mk (argV args 0) (argV args 1) (argV args 4) (argV args 5) (argV args 6) (argV args 7) (argV args 8) (argV args 9) (argV args 23) (argV args 57) (argV args 73) (argV args 74) (argV args 75) (argV args 85)) S fun o v S => EX.casesOn o (r104 v S) (fun _ => none) (r104 v S)
/-! (*assayer/kind.cursor).fails -/
def c105_0 (C : Callee) : Cd V4 := fun v S κ => (V4.casesOn v fun v0 v1 v2 v13 => 
  bl v1 fun b => cond b
   (kNilc v0 S fun v14 S14 =>
   kFad 2 v14 S14 fun v15 S15 =>
   kLd none v15 S15 fun v16 S16 =>
   kBin .eql v16 (.int .i64 0) S16 fun v17 S17 =>
   κ .normal (V4.mk v0 v1 v2 v17) S17)
   (κ .normal (V4.mk v0 v1 v2 (.bool false)) S))
def c105_1 : V4 → Value := fun v => (V4.casesOn v fun v0 v1 v2 v13 => v13)
def c105_2 (C : Callee) : Cd V4 := fun v S κ => (V4.casesOn v fun v0 v1 v2 v13 => 
  kNilc v0 S fun v14 S14 =>
  kFad 2 v14 S14 fun v15 S15 =>
  kSt 1 v15 v2 S15 fun v16 S16 =>
  κ .normal (V4.mk v0 v1 v2 v13) S16)
/-- (*assayer/kind.cursor).fails -/
def c105 (C : Callee) (n : Nat) : Cd V4 := seqK (c105_0 C) (condK c105_1 (c105_2 C) (skipK))
def r105 (v : V4) (S : AW) : R := (V4.casesOn v fun v0 v1 v2 v13 => some (.tuple #[], S))
def g105 (C : Callee) (n : Nat) (args : List Value) (S : AW) : R := c105 C n (V4.mk (argV args 0) (argV args 1) (argV args 2) (argV args 13)) S fun o v S => EX.casesOn o (r105 v S) (fun _ => none) (r105 v S)
/-! slices.IndexFunc[[]assayer/api.SEnum,assayer/api.SEnum] -/
def c106_0 (C : Callee) : Cd V8 := fun v S κ => (V8.casesOn v fun v0 v1 v4 v5 v7 v8 v9 v16 => 
  κ .normal (V8.mk v0 v1 (.int .i64 0) v5 v7 v8 v9 v16) S)
def c106_1 (C : Callee) : Cd V8 := fun v S κ => (V8.casesOn v fun v0 v1 v4 v5 v7 v8 v9 v16 => 
  kLen false v0 S fun v17 S17 =>
  κ .normal (V8.mk v0 v1 v4 v5 v17 (.int .i64 0) v9 v16) S17)
def c106_2 (C : Callee) : Cd V8 := fun v S κ => (V8.casesOn v fun v0 v1 v4 v5 v7 v8 v9 v16 => 
  kBin .lss v8 v7 S fun v17 S17 =>
  κ .normal (V8.mk v0 v1 v4 v5 v7 v8 v17 v16) S17)
def c106_3 : V8 → Value := fun v => (V8.casesOn v fun v0 v1 v4 v5 v7 v8 v9 v16 => v9)
def c106_4 (C : Callee) : Cd V8 := fun v S κ => (V8.casesOn v fun v0 v1 v4 v5 v7 v8 v9 v16 => 
  κ .normal (V8.mk v0 v1 v4 v8 v7 v8 v9 v16) S)
def c106_5 (C : Callee) : Cd V8 := fun v S κ => (V8.casesOn v fun v0 v1 v4 v5 v7 v8 v9 v16 => 
  kIad 2 v0 v5 S fun v17 S17 =>
  kLd (some 2) v17 S17 fun v18 S18 =>
  kCallV C v1 [v18] S18 fun v19 S19 =>
  κ .normal (V8.mk v0 v1 v4 v5 v7 v8 v9 v19) S19)
def c106_6 : V8 → Value := fun v => (V8.casesOn v fun v0 v1 v4 v5 v7 v8 v9 v16 => v16)
def c106_7 (C : Callee) : Cd V8 := fun v S κ => (V8.casesOn v fun v0 v1 v4 v5 v7 v8 v9 v16 => 
  κ .normal (V8.mk v0 v1 v5 v5 v7 v8 v9 v16) S)
def c106_8 (C : Callee) : Cd V8 := fun v S κ => (V8.casesOn v fun v0 v1 v4 v5 v7 v8 v9 v16 => 
  kBin .add v8 (.int .i64 1) S fun v17 S17 =>
  κ .normal (V8.mk v0 v1 v4 v5 v7 v17 v9 v16) S17)
def c106_9 (C : Callee) (n : Nat) : Cd V8 := seqK (c106_2 C) (seqK (condK c106_3 (skipK) (exitK 0)) (seqK (blockK 1 (seqK (c106_4 C) (seqK (c106_5 C) (condK c106_6 (seqK (c106_7 C) (retK)) (skipK))))) (c106_8 C)))
def c106_10 (C : Callee) : Cd V8 := fun v S κ => (V8.casesOn v fun v0 v1 v4 v5 v7 v8 v9 v16 => 
  κ .normal (V8.mk v0 v1 (.int .i64 (-1)) v5 v7 v8 v9 v16) S)
/-- slices.IndexFunc[[]assayer/api.SEnum,assayer/api.SEnum] -/
def c106 (C : Callee) (n : Nat) : Cd V8 := seqK (c106_0 C) (seqK (seqK (c106_1 C) (blockK 0 (loopK n (c106_9 C n)))) (seqK (c106_10 C) (retK)))
def r106 (v : V8) (S : AW) : R := (V8.casesOn v fun v0 v1 v4 v5 v7 v8 v9 v16 => some (v4, S))
def g106 (C : Callee) (n : Nat) (args : List Value) (S : AW) : R := c106 C n (V8.mk (argV args 0) (argV args 1) (argV args 4) (argV args 5) (argV args 7) (argV args 8) (argV args 9) (argV args 16)) S fun o v S => EX.casesOn o (r106 v S) (fun _ => none) (r106 v S)
/-! assayer/value.Enum$1 -/
def c107_0 (C : Callee) : Cd V4 := fun v S κ => (V4.casesOn v fun v0 v1 v2 v3 => 
  kBox 140 2 v0 S fun v4 S4 =>
  κ .normal (V4.mk v0 v1 v4 (.bool false)) S4)
def c107_1 (C : Callee) : Cd V4 := fun v S κ => (V4.casesOn v fun v0 v1 v2 v3 => 
  kFad 0 v2 S fun v4 S4 =>
  kLd none v4 S4 fun v5 S5 =>
  kLd none v1 S5 fun v6 S6 =>
  kBin .eql v5 v6 S6 fun v7 S7 =>
  κ .normal (V4.mk v0 v1 v2 v7) S7)
/-- assayer/value.Enum$1 -/
def c107 (C : Callee) (n : Nat) : Cd V4 := seqK (c107_0 C) (seqK (c107_1 C) (retK))
def r107 (v : V4) (S : AW) : R := (V4.casesOn v fun v0 v1 v2 v3 => some (v3, S))
def g107 (C : Callee) (n : Nat) (args : List Value) (S : AW) : R := c107 C n (V4.mk (argV args 0) (argV args 1) (argV args 2) (argV args 3)) S fun o v S => EX.casesOn o (r107 v S) (fun _ => none) (r107 v S)
/-! internal/stringslite.IndexByte -/
def c108_0 (C : Callee) : Cd V3 := fun v S κ => (V3.casesOn v fun v0 v1 v4 => 
  κ .normal (V3.mk v0 v1 (.int .i64 0)) S)
def c108_1 (C : Callee) : Cd V3 := fun v S κ => (V3.casesOn v fun v0 v1 v4 => 
  kCall C 127 [v0, v1] S fun v5 S5 =>
  κ .normal (V3.mk v0 v1 v5) S5)
/-- internal/stringslite.IndexByte -/
def c108 (C : Callee) (n : Nat) : Cd V3 := seqK (c108_0 C) (seqK (c108_1 C) (retK))
def r108 (v : V3) (S : AW) : R := (V3.casesOn v fun v0 v1 v4 => some (v4, S))
def g108 (C : Callee) (n : Nat) (args : List Value) (S : AW) : R := c108 C n (V3.mk (argV args 0) (argV args 1) (argV args 4)) S fun o v S => EX.casesOn o (r108 v S) (fun _ => none) (r108 v S)
/-! slices.IndexFunc[[]assayer/api.Member,assayer/api.Member] -/
def c109_0 (C : Callee) : Cd V8 := fun v S κ => (V8.casesOn v fun v0 v1 v4 v5 v7 v8 v9 v16 => 
  κ .normal (V8.mk v0 v1 (.int .i64 0) v5 v7 v8 v9 v16) S)
def c109_1 (C : Callee) : Cd V8 := fun v S κ => (V8.casesOn v fun v0 v1 v4 v5 v7 v8 v9 v16 => 
  kLen false v0 S fun v17 S17 =>
  κ .normal (V8.mk v0 v1 v4 v5 v17 (.int .i64 0) v9 v16) S17)
def c109_2 (C : Callee) : Cd V8 := fun v S κ => (V8.casesOn v fun v0 v1 v4 v5 v7 v8 v9 v16 => 
  kBin .lss v8 v7 S fun v17 S17 =>
  κ .normal (V8.mk v0 v1 v4 v5 v7 v8 v17 v16) S17)
def c109_3 : V8 → Value := fun v => (V8.casesOn v fun v0 v1 v4 v5 v7 v8 v9 v16 => v9)
def c109_4 (C : Callee) : Cd V8 := fun v S κ => (V8.casesOn v fun v0 v1 v4 v5 v7 v8 v9 v16 => 
  κ .normal (V8.mk v0 v1 v4 v8 v7 v8 v9 v16) S)
def c109_5 (C : Callee) : Cd V8 := fun v S κ => (V8.casesOn v fun v0 v1 v4 v5 v7 v8 v9 v16 => 
  kIad 3 v0 v5 S fun v17 S17 =>
  kLd (some 3) v17 S17 fun v18 S18 =>
  kCallV C v1 [v18] S18 fun v19 S19 =>
  κ .normal (V8.mk v0 v1 v4 v5 v7 v8 v9 v19) S19)
def c109_6 : V8 → Value := fun v => (V8.casesOn v fun v0 v1 v4 v5 v7 v8 v9 v16 => v16)
def c109_7 (C : Callee) : Cd V8 := fun v S κ => (V8.casesOn v fun v0 v1 v4 v5 v7 v8 v9 v16 => 
  κ .normal (V8.mk v0 v1 v5 v5 v7 v8 v9 v16) S)
def c109_8 (C : Callee) : Cd V8 := fun v S κ => (V8.casesOn v fun v0 v1 v4 v5 v7 v8 v9 v16 => 
  kBin .add v8 (.int .i64 1) S fun v17 S17 =>
  κ .normal (V8.mk v0 v1 v4 v5 v7 v17 v9 v16) S17)
def c109_9 (C : Callee) (n : Nat) : Cd V8 := seqK (c109_2 C) (seqK (condK c109_3 (skipK) (exitK 0)) (seqK (blockK 1 (seqK (c109_4 C) (seqK (c109_5 C) (condK c109_6 (seqK (c109_7 C) (retK)) (skipK))))) (c109_8 C)))
def c109_10 (C : Callee) : Cd V8 := fun v S κ => (V8.casesOn v fun v0 v1 v4 v5 v7 v8 v9 v16 => 
  κ .normal (V8.mk v0 v1 (.int .i64 (-1)) v5 v7 v8 v9 v16) S)
/-- slices.IndexFunc[[]assayer/api.Member,assayer/api.Member] -/
def c109 (C : Callee) (n : Nat) : Cd V8 := seqK (c109_0 C) (seqK (seqK (c109_1 C) (blockK 0 (loopK n (c109_9 C n)))) (seqK (c109_10 C) (retK)))
def r109 (v : V8) (S : AW) : R := (V8.casesOn v fun v0 v1 v4 v5 v7 v8 v9 v16 => some (v4, S))
def g109 (C : Callee) (n : Nat) (args : List Value) (S : AW) : R := c109 C n (V8.mk (argV args 0) (argV args 1) (argV args 4) (argV args 5) (argV args 7) (argV args 8) (argV args 9) (argV args 16)) S fun o v S => EX.casesOn o (r109 v S) (fun _ => none) (r109 v S)
/-! assayer/pair.Member$1 -/
def c110_0 (C : Callee) : Cd V4 := fun v S κ => (V4.casesOn v fun v0 v1 v2 v3 => 
  kBox 146 3 v0 S fun v4 S4 =>
  κ .normal (V4.mk v0 v1 v4 (.bool false)) S4)
def c110_1 (C : Callee) : Cd V4 := fun v S κ => (V4.casesOn v fun v0 v1 v2 v3 => 
  kFad 2 v2 S fun v4 S4 =>
  kLd none v4 S4 fun v5 S5 =>
  kLd none v1 S5 fun v6 S6 =>
  kBin .eql v5 v6 S6 fun v7 S7 =>
  κ .normal (V4.mk v0 v1 v2 v7) S7)
/-- assayer/pair.Member$1 -/
def c110 (C : Callee) (n : Nat) : Cd V4 := seqK (c110_0 C) (seqK (c110_1 C) (retK))
def r110 (v : V4) (S : AW) : R := (V4.casesOn v fun v0 v1 v2 v3 => some (v3, S))
def g110 (C : Callee) (n : Nat) (args : List Value) (S : AW) : R := c110 C n (V4.mk (argV args 0) (argV args 1) (argV args 2) (argV args 3)) S fun o v S => EX.casesOn o (r110 v S) (fun _ => none) (r110 v S)
/-! assayer/kind.word -/
def c122_0 (C : Callee) : Cd V14 := fun v S κ => (V14.casesOn v fun v0 v2 v3 v4 v6 v8 v10 v12 v14 v16 v18 v20 v22 v24 => 
  κ .normal (V14.mk v0 (.int .i64 0) v3 v4 v6 v8 v10 v12 v14 v16 v18 v20 v22 v24) S)
def c122_1 (C : Callee) : Cd V14 := fun v S κ => (V14.casesOn v fun v0 v2 v3 v4 v6 v8 v10 v12 v14 v16 v18 v20 v22 v24 => 
  κ .normal (V14.mk v0 v2 v0 v4 v6 v8 v10 v12 v14 v16 v18 v20 v22 v24) S)
def c122_2 (C : Callee) : Cd V14 := fun v S κ => (V14.casesOn v fun v0 v2 v3 v4 v6 v8 v10 v12 v14 v16 v18 v20 v22 v24 => 
  kBin .eql v3 (.string ⟨#[98, 111, 111, 108]⟩) S fun v25 S25 =>
  κ .normal (V14.mk v0 v2 v3 v25 v6 v8 v10 v12 v14 v16 v18 v20 v22 v24) S25)
def c122_3 : V14 → Value := fun v => (V14.casesOn v fun v0 v2 v3 v4 v6 v8 v10 v12 v14 v16 v18 v20 v22 v24 => v4)
def c122_4 (C : Callee) : Cd V14 := fun v S κ => (V14.casesOn v fun v0 v2 v3 v4 v6 v8 v10 v12 v14 v16 v18 v20 v22 v24 => 
  κ .normal (V14.mk v0 (.int .i64 2) v3 v4 v6 v8 v10 v12 v14 v16 v18 v20 v22 v24) S)
def c122_5 (C : Callee) : Cd V14 := fun v S κ => (V14.casesOn v fun v0 v2 v3 v4 v6 v8 v10 v12 v14 v16 v18 v20 v22 v24 => 
  kBin .eql v3 (.string ⟨#[105, 56]⟩) S fun v25 S25 =>
  κ .normal (V14.mk v0 v2 v3 v4 v25 v8 v10 v12 v14 v16 v18 v20 v22 v24) S25)
def c122_6 : V14 → Value := fun v => (V14.casesOn v fun v0 v2 v3 v4 v6 v8 v10 v12 v14 v16 v18 v20 v22 v24 => v6)
def c122_7 (C : Callee) : Cd V14 := fun v S κ => (V14.casesOn v fun v0 v2 v3 v4 v6 v8 v10 v12 v14 v16 v18 v20 v22 v24 => 
  κ .normal (V14.mk v0 (.int .i64 3) v3 v4 v6 v8 v10 v12 v14 v16 v18 v20 v22 v24) S)
def c122_8 (C : Callee) : Cd V14 := fun v S κ => (V14.casesOn v fun v0 v2 v3 v4 v6 v8 v10 v12 v14 v16 v18 v20 v22 v24 => 
  kBin .eql v3 (.string ⟨#[105, 49, 54]⟩) S fun v25 S25 =>
  κ .normal (V14.mk v0 v2 v3 v4 v6 v25 v10 v12 v14 v16 v18 v20 v22 v24) S25)
def c122_9 : V14 → Value := fun v => (V14.casesOn v fun v0 v2 v3 v4 v6 v8 v10 v12 v14 v16 v18 v20 v22 v24 => v8)
def c122_10 (C : Callee) : Cd V14 := fun v S κ => (V14.casesOn v fun v0 v2 v3 v4 v6 v8 v10 v12 v14 v16 v18 v20 v22 v24 => 
  κ .normal (V14.mk v0 (.int .i64 6) v3 v4 v6 v8 v10 v12 v14 v16 v18 v20 v22 v24) S)
def c122_11 (C : Callee) : Cd V14 := fun v S κ => (V14.casesOn v fun v0 v2 v3 v4 v6 v8 v10 v12 v14 v16 v18 v20 v22 v24 => 
  kBin .eql v3 (.string ⟨#[105, 51, 50]⟩) S fun v25 S25 =>
  κ .normal (V14.mk v0 v2 v3 v4 v6 v8 v25 v12 v14 v16 v18 v20 v22 v24) S25)
def c122_12 : V14 → Value := fun v => (V14.casesOn v fun v0 v2 v3 v4 v6 v8 v10 v12 v14 v16 v18 v20 v22 v24 => v10)
def c122_13 (C : Callee) : Cd V14 := fun v S κ => (V14.casesOn v fun v0 v2 v3 v4 v6 v8 v10 v12 v14 v16 v18 v20 v22 v24 => 
  κ .normal (V14.mk v0 (.int .i64 8) v3 v4 v6 v8 v10 v12 v14 v16 v18 v20 v22 v24) S)
def c122_14 (C : Callee) : Cd V14 := fun v S κ => (V14.casesOn v fun v0 v2 v3 v4 v6 v8 v10 v12 v14 v16 v18 v20 v22 v24 => 
  kBin .eql v3 (.string ⟨#[105, 54, 52]⟩) S fun v25 S25 =>
  κ .normal (V14.mk v0 v2 v3 v4 v6 v8 v10 v25 v14 v16 v18 v20 v22 v24) S25)
def c122_15 : V14 → Value := fun v => (V14.casesOn v fun v0 v2 v3 v4 v6 v8 v10 v12 v14 v16 v18 v20 v22 v24 => v12)
def c122_16 (C : Callee) : Cd V14 := fun v S κ => (V14.casesOn v fun v0 v2 v3 v4 v6 v8 v10 v12 v14 v16 v18 v20 v22 v24 => 
  κ .normal (V14.mk v0 (.int .i64 10) v3 v4 v6 v8 v10 v12 v14 v16 v18 v20 v22 v24) S)
def c122_17 (C : Callee) : Cd V14 := fun v S κ => (V14.casesOn v fun v0 v2 v3 v4 v6 v8 v10 v12 v14 v16 v18 v20 v22 v24 => 
  kBin .eql v3 (.string ⟨#[100, 111, 117, 98, 108, 101]⟩) S fun v25 S25 =>
  κ .normal (V14.mk v0 v2 v3 v4 v6 v8 v10 v12 v25 v16 v18 v20 v22 v24) S25)
def c122_18 : V14 → Value := fun v => (V14.casesOn v fun v0 v2 v3 v4 v6 v8 v10 v12 v14 v16 v18 v20 v22 v24 => v14)
def c122_19 (C : Callee) : Cd V14 := fun v S κ => (V14.casesOn v fun v0 v2 v3 v4 v6 v8 v10 v12 v14 v16 v18 v20 v22 v24 => 
  κ .normal (V14.mk v0 (.int .i64 4) v3 v4 v6 v8 v10 v12 v14 v16 v18 v20 v22 v24) S)
def c122_20 (C : Callee) : Cd V14 := fun v S κ => (V14.casesOn v fun v0 v2 v3 v4 v6 v8 v10 v12 v14 v16 v18 v20 v22 v24 => 
  kBin .eql v3 (.string ⟨#[115, 116, 114, 105, 110, 103]⟩) S fun v25 S25 =>
  κ .normal (V14.mk v0 v2 v3 v4 v6 v8 v10 v12 v14 v25 v18 v20 v22 v24) S25)
def c122_21 : V14 → Value := fun v => (V14.casesOn v fun v0 v2 v3 v4 v6 v8 v10 v12 v14 v16 v18 v20 v22 v24 => v16)
def c122_22 (C : Callee) : Cd V14 := fun v S κ => (V14.casesOn v fun v0 v2 v3 v4 v6 v8 v10 v12 v14 v16 v18 v20 v22 v24 => 
  κ .normal (V14.mk v0 (.int .i64 11) v3 v4 v6 v8 v10 v12 v14 v16 v18 v20 v22 v24) S)
def c122_23 (C : Callee) : Cd V14 := fun v S κ => (V14.casesOn v fun v0 v2 v3 v4 v6 v8 v10 v12 v14 v16 v18 v20 v22 v24 => 
  kBin .eql v3 (.string ⟨#[98, 105, 110, 97, 114, 121]⟩) S fun v25 S25 =>
  κ .normal (V14.mk v0 v2 v3 v4 v6 v8 v10 v12 v14 v16 v25 v20 v22 v24) S25)
def c122_24 : V14 → Value := fun v => (V14.casesOn v fun v0 v2 v3 v4 v6 v8 v10 v12 v14 v16 v18 v20 v22 v24 => v18)
def c122_25 (C : Callee) : Cd V14 := fun v S κ => (V14.casesOn v fun v0 v2 v3 v4 v6 v8 v10 v12 v14 v16 v18 v20 v22 v24 => 
  κ .normal (V14.mk v0 (.int .i64 16) v3 v4 v6 v8 v10 v12 v14 v16 v18 v20 v22 v24) S)
def c122_26 (C : Callee) : Cd V14 := fun v S κ => (V14.casesOn v fun v0 v2 v3 v4 v6 v8 v10 v12 v14 v16 v18 v20 v22 v24 => 
  kBin .eql v3 (.string ⟨#[108, 105, 115, 116]⟩) S fun v25 S25 =>
  κ .normal (V14.mk v0 v2 v3 v4 v6 v8 v10 v12 v14 v16 v18 v25 v22 v24) S25)
def c122_27 : V14 → Value := fun v => (V14.casesOn v fun v0 v2 v3 v4 v6 v8 v10 v12 v14 v16 v18 v20 v22 v24 => v20)
def c122_28 (C : Callee) : Cd V14 := fun v S κ => (V14.casesOn v fun v0 v2 v3 v4 v6 v8 v10 v12 v14 v16 v18 v20 v22 v24 => 
  κ .normal (V14.mk v0 (.int .i64 15) v3 v4 v6 v8 v10 v12 v14 v16 v18 v20 v22 v24) S)
def c122_29 (C : Callee) : Cd V14 := fun v S κ => (V14.casesOn v fun v0 v2 v3 v4 v6 v8 v10 v12 v14 v16 v18 v20 v22 v24 => 
  kBin .eql v3 (.string ⟨#[115, 101, 116]⟩) S fun v25 S25 =>
  κ .normal (V14.mk v0 v2 v3 v4 v6 v8 v10 v12 v14 v16 v18 v20 v25 v24) S25)
def c122_30 : V14 → Value := fun v => (V14.casesOn v fun v0 v2 v3 v4 v6 v8 v10 v12 v14 v16 v18 v20 v22 v24 => v22)
def c122_31 (C : Callee) : Cd V14 := fun v S κ => (V14.casesOn v fun v0 v2 v3 v4 v6 v8 v10 v12 v14 v16 v18 v20 v22 v24 => 
  κ .normal (V14.mk v0 (.int .i64 14) v3 v4 v6 v8 v10 v12 v14 v16 v18 v20 v22 v24) S)
def c122_32 (C : Callee) : Cd V14 := fun v S κ => (V14.casesOn v fun v0 v2 v3 v4 v6 v8 v10 v12 v14 v16 v18 v20 v22 v24 => 
  kBin .eql v3 (.string ⟨#[109, 97, 112]⟩) S fun v25 S25 =>
  κ .normal (V14.mk v0 v2 v3 v4 v6 v8 v10 v12 v14 v16 v18 v20 v22 v25) S25)
def c122_33 : V14 → Value := fun v => (V14.casesOn v fun v0 v2 v3 v4 v6 v8 v10 v12 v14 v16 v18 v20 v22 v24 => v24)
def c122_34 (C : Callee) : Cd V14 := fun v S κ => (V14.casesOn v fun v0 v2 v3 v4 v6 v8 v10 v12 v14 v16 v18 v20 v22 v24 => 
  κ .normal (V14.mk v0 (.int .i64 13) v3 v4 v6 v8 v10 v12 v14 v16 v18 v20 v22 v24) S)
def c122_35 (C : Callee) : Cd V14 := fun v S κ => (V14.casesOn v fun v0 v2 v3 v4 v6 v8 v10 v12 v14 v16 v18 v20 v22 v24 => 
  κ .normal (V14.mk v0 (.int .i64 0) v3 v4 v6 v8 v10 v12 v14 v16 v18 v20 v22 v24) S)
/-- assayer/kind.word -/
def c122 (C : Callee) (n : Nat) : Cd V14 := seqK (c122_0 C) (seqK (seqK (c122_1 C) (blockK 0 (seqK (c122_2 C) (condK c122_3 (seqK (c122_4 C) (retK)) (seqK (c122_5 C) (condK c122_6 (seqK (c122_7 C) (retK)) (seqK (c122_8 C) (condK c122_9 (seqK (c122_10 C) (retK)) (seqK (c122_11 C) (condK c122_12 (seqK (c122_13 C) (retK)) (seqK (c122_14 C) (condK c122_15 (seqK (c122_16 C) (retK)) (seqK (c122_17 C) (condK c122_18 (seqK (c122_19 C) (retK)) (seqK (c122_20 C) (condK c122_21 (seqK (c122_22 C) (retK)) (seqK (c122_23 C) (condK c122_24 (seqK (c122_25 C) (retK)) (seqK (c122_26 C) (condK c122_27 (seqK (c122_28 C) (retK)) (seqK (c122_29 C) (condK c122_30 (seqK (c122_31 C) (retK)) (seqK (c122_32 C) (condK c122_33 (seqK (c122_34 C) (retK)) (skipK))))))))))))))))))))))))) (seqK (c122_35 C) (retK)))
def r122 (v : V14) (S : AW) : R := (V14.casesOn v fun v0 v2 v3 v4 v6 v8 v10 v12 v14 v16 v18 v20 v22 v24 => some (v2, S))
def g122 (C : Callee) (n : Nat) (args : List Value) (S : AW) : R := c122 C n (V14.mk (argV args 0) (argV args 2) (argV args 3) (argV args 4) (argV args 6) (argV args 8) (argV args 10) (argV args 12) (argV args 14) (argV args 16) (argV args 18) (argV args 20) (argV args 22) (argV args 24)) S fun o v S => EX.casesOn o (r122 v S) (fun _ => none) (r122 v S)
/-! (*assayer/kind.cursor).part -/
def c123_0 (C : Callee) : Cd V4 := fun v S κ => (V4.casesOn v fun v0 v2 v3 v85 => 
  κ .normal (V4.mk v0 (.string ⟨#[]⟩) v3 v85) S)
def c123_1 (C : Callee) : Cd V4 := fun v S κ => (V4.casesOn v fun v0 v2 v3 v85 => 
  kNilc v0 S fun v86 S86 =>
  kFad 1 v86 S86 fun v87 S87 =>
  kLd none v87 S87 fun v88 S88 =>
  κ .normal (V4.mk v0 v2 v88 v85) S88)
def c123_2 (C : Callee) : Cd V4 := fun v S κ => (V4.casesOn v fun v0 v2 v3 v85 => 
  kNilc v0 S fun v86 S86 =>
  kFad 1 v86 S86 fun v87 S87 =>
  kLd none v87 S87 fun v88 S88 =>
  kNilc v0 S88 fun v89 S89 =>
  kFad 0 v89 S89 fun v90 S90 =>
  kLd none v90 S90 fun v91 S91 =>
  kLen true v91 S91 fun v92 S92 =>
  kBin .geq v88 v92 S92 fun v93 S93 =>
  bl v93 fun b => cond b
   (kCall C 105 [v0, (.bool true), (.int .i64 2)] S93 fun v94 S94 =>
   κ .normal (V4.mk v0 v2 v3 v85) S94)
   (kNilc v0 S93 fun v94 S94 =>
   kFad 0 v94 S94 fun v95 S95 =>
   kLd none v95 S95 fun v96 S96 =>
   kNilc v0 S96 fun v97 S97 =>
   kFad 1 v97 S97 fun v98 S98 =>
   kLd none v98 S98 fun v99 S99 =>
   kIdxS v96 v99 S99 fun v100 S100 =>
   kCall C 134 [v100] S100 fun v101 S101 =>
   kUn .not v101 S101 fun v102 S102 =>
   kCall C 105 [v0, v102, (.int .i64 2)] S102 fun v103 S103 =>
   κ .normal (V4.mk v0 v2 v3 v85) S103))
def c123_3 (C : Callee) : Cd V4 := fun v S κ => (V4.casesOn v fun v0 v2 v3 v85 => 
  kNilc v0 S fun v86 S86 =>
  kFad 2 v86 S86 fun v87 S87 =>
  kLd none v87 S87 fun v88 S88 =>
  kBin .eql v88 (.int .i64 0) S88 fun v89 S89 =>
  bl v89 fun b => cond b
   (kNilc v0 S89 fun v90 S90 =>
   kFad 1 v90 S90 fun v91 S91 =>
   kLd none v91 S91 fun v92 S92 =>
   kNilc v0 S92 fun v93 S93 =>
   kFad 0 v93 S93 fun v94 S94 =>
   kLd none v94 S94 fun v95 S95 =>
   kLen true v95 S95 fun v96 S96 =>
   kBin .lss v92 v96 S96 fun v97 S97 =>
   bl v97 fun b => cond b
    (kNilc v0 S97 fun v98 S98 =>
    kFad 0 v98 S98 fun v99 S99 =>
    kLd none v99 S99 fun v100 S100 =>
    kNilc v0 S100 fun v101 S101 =>
    kFad 1 v101 S101 fun v102 S102 =>
    kLd none v102 S102 fun v103 S103 =>
    kIdxS v100 v103 S103 fun v104 S104 =>
    kCall C 134 [v104] S104 fun v105 S105 =>
    bl v105 fun b => cond b
     (κ .normal (V4.mk v0 v2 v3 (.bool true)) S105)
     (kNilc v0 S105 fun v106 S106 =>
     kFad 0 v106 S106 fun v107 S107 =>
     kLd none v107 S107 fun v108 S108 =>
     kNilc v0 S108 fun v109 S109 =>
     kFad 1 v109 S109 fun v110 S110 =>
     kLd none v110 S110 fun v111 S111 =>
     kIdxS v108 v111 S111 fun v112 S112 =>
     kBin .geq v112 (.int .u8 48) S112 fun v113 S113 =>
     bl v113 fun b => cond b
      (kNilc v0 S113 fun v114 S114 =>
      kFad 0 v114 S114 fun v115 S115 =>
      kLd none v115 S115 fun v116 S116 =>
      kNilc v0 S116 fun v117 S117 =>
      kFad 1 v117 S117 fun v118 S118 =>
      kLd none v118 S118 fun v119 S119 =>
      kIdxS v116 v119 S119 fun v120 S120 =>
      kBin .leq v120 (.int .u8 57) S120 fun v121 S121 =>
      κ .normal (V4.mk v0 v2 v3 v121) S121)
      (κ .normal (V4.mk v0 v2 v3 (.bool false)) S113)))
    (κ .normal (V4.mk v0 v2 v3 (.bool false)) S97))
   (κ .normal (V4.mk v0 v2 v3 (.bool false)) S89))
def c123_4 : V4 → Value := fun v => (V4.casesOn v fun v0 v2 v3 v85 => v85)
def c123_5 (C : Callee) : Cd V4 := fun v S κ => (V4.casesOn v fun v0 v2 v3 v85 => 
  kNilc v0 S fun v86 S86 =>
  kFad 1 v86 S86 fun v87 S87 =>
  kLd none v87 S87 fun v88 S88 =>
  kBin .add v88 (.int .i64 1) S88 fun v89 S89 =>
  kNilc v0 S89 fun v90 S90 =>
  kFad 1 v90 S90 fun v91 S91 =>
  kSt 1 v91 v89 S91 fun v92 S92 =>
  κ .normal (V4.mk v0 v2 v3 v85) S92)
def c123_6 (C : Callee) (n : Nat) : Cd V4 := seqK (seqK (c123_3 C) (condK c123_4 (skipK) (exitK 0))) (blockK 1 (c123_5 C))
def c123_7 (C : Callee) : Cd V4 := fun v S κ => (V4.casesOn v fun v0 v2 v3 v85 => 
  kNilc v0 S fun v86 S86 =>
  kFad 0 v86 S86 fun v87 S87 =>
  kLd none v87 S87 fun v88 S88 =>
  kNilc v0 S88 fun v89 S89 =>
  kFad 1 v89 S89 fun v90 S90 =>
  kLd none v90 S90 fun v91 S91 =>
  kSlS v88 (some v3) (some v91) S91 fun v92 S92 =>
  κ .normal (V4.mk v0 v92 v3 v85) S92)
/-- (*assayer/kind.cursor).part -/
def c123 (C : Callee) (n : Nat) : Cd V4 := seqK (c123_0 C) (seqK (c123_1 C) (seqK (c123_2 C) (seqK (blockK 0 (loopK n (c123_6 C n))) (seqK (c123_7 C) (retK)))))
def r123 (v : V4) (S : AW) : R := (V4.casesOn v fun v0 v2 v3 v85 => some (v2, S))
def g123 (C : Callee) (n : Nat) (args : List Value) (S : AW) : R := c123 C n (V4.mk (argV args 0) (argV args 2) (argV args 3) (argV args 85)) S fun o v S => EX.casesOn o (r123 v S) (fun _ => none) (r123 v S)
/-! (*assayer/kind.cursor).rest -/
def c124_0 (C : Callee) : Cd V4 := fun v S κ => (V4.casesOn v fun v0 v2 v3 v36 => 
  κ .normal (V4.mk v0 (.bool false) v3 v36) S)
def c124_1 (C : Callee) : Cd V4 := fun v S κ => (V4.casesOn v fun v0 v2 v3 v36 => 
  kNilc v0 S fun v37 S37 =>
  kFad 1 v37 S37 fun v38 S38 =>
  kLd none v38 S38 fun v39 S39 =>
  κ .normal (V4.mk v0 v2 v39 v36) S39)
def c124_2 (C : Callee) : Cd V4 := fun v S κ => (V4.casesOn v fun v0 v2 v3 v36 => 
  kNilc v0 S fun v37 S37 =>
  kFad 2 v37 S37 fun v38 S38 =>
  kLd none v38 S38 fun v39 S39 =>
  kBin .eql v39 (.int .i64 0) S39 fun v40 S40 =>
  bl v40 fun b => cond b
   (kNilc v0 S40 fun v41 S41 =>
   kFad 1 v41 S41 fun v42 S42 =>
   kLd none v42 S42 fun v43 S43 =>
   kNilc v0 S43 fun v44 S44 =>
   kFad 0 v44 S44 fun v45 S45 =>
   kLd none v45 S45 fun v46 S46 =>
   kLen true v46 S46 fun v47 S47 =>
   kBin .lss v43 v47 S47 fun v48 S48 =>
   bl v48 fun b => cond b
    (kNilc v0 S48 fun v49 S49 =>
    kFad 0 v49 S49 fun v50 S50 =>
    kLd none v50 S50 fun v51 S51 =>
    kNilc v0 S51 fun v52 S52 =>
    kFad 1 v52 S52 fun v53 S53 =>
    kLd none v53 S53 fun v54 S54 =>
    kIdxS v51 v54 S54 fun v55 S55 =>
    kBin .eql v55 (.int .u8 46) S55 fun v56 S56 =>
    κ .normal (V4.mk v0 v2 v3 v56) S56)
    (κ .normal (V4.mk v0 v2 v3 (.bool false)) S48))
   (κ .normal (V4.mk v0 v2 v3 (.bool false)) S40))
def c124_3 : V4 → Value := fun v => (V4.casesOn v fun v0 v2 v3 v36 => v36)
def c124_4 (C : Callee) : Cd V4 := fun v S κ => (V4.casesOn v fun v0 v2 v3 v36 => 
  kNilc v0 S fun v37 S37 =>
  kFad 1 v37 S37 fun v38 S38 =>
  kLd none v38 S38 fun v39 S39 =>
  kBin .add v39 (.int .i64 1) S39 fun v40 S40 =>
  kNilc v0 S40 fun v41 S41 =>
  kFad 1 v41 S41 fun v42 S42 =>
  kSt 1 v42 v40 S42 fun v43 S43 =>
  κ .normal (V4.mk v0 v2 v3 v36) S43)
def c124_5 (C : Callee) : Cd V4 := fun v S κ => (V4.casesOn v fun v0 v2 v3 v36 => 
  kCall C 123 [v0] S fun v37 S37 =>
  κ .normal (V4.mk v0 v2 v3 v36) S37)
def c124_6 (C : Callee) (n : Nat) : Cd V4 := seqK (seqK (c124_2 C) (condK c124_3 (skipK) (exitK 0))) (blockK 1 (seqK (c124_4 C) (c124_5 C)))
def c124_7 (C : Callee) : Cd V4 := fun v S κ => (V4.casesOn v fun v0 v2 v3 v36 => 
  kNilc v0 S fun v37 S37 =>
  kFad 1 v37 S37 fun v38 S38 =>
  kLd none v38 S38 fun v39 S39 =>
  kBin .gtr v39 v3 S39 fun v40 S40 =>
  κ .normal (V4.mk v0 v40 v3 v36) S40)
/-- (*assayer/kind.cursor).rest -/
def c124 (C : Callee) (n : Nat) : Cd V4 := seqK (c124_0 C) (seqK (c124_1 C) (seqK (blockK 0 (loopK n (c124_6 C n))) (seqK (c124_7 C) (retK))))
def r124 (v : V4) (S : AW) : R := (V4.casesOn v fun v0 v2 v3 v36 => some (v2, S))
def g124 (C : Callee) (n : Nat) (args : List Value) (S : AW) : R := c124 C n (V4.mk (argV args 0) (argV args 2) (argV args 3) (argV args 36)) S fun o v S => EX.casesOn o (r124 v S) (fun _ => none) (r124 v S)
/-! assayer/kind.inner -/
def c125_0 (C : Callee) : Cd V5 := fun v S κ => (V5.casesOn v fun v0 v2 v3 v4 v7 => 
  κ .normal (V5.mk v0 (.int .i64 0) v3 v4 v7) S)
def c125_1 (C : Callee) : Cd V5 := fun v S κ => (V5.casesOn v fun v0 v2 v3 v4 v7 => 
  κ .normal (V5.mk v0 v2 v0 v4 v7) S)
def c125_2 (C : Callee) : Cd V5 := fun v S κ => (V5.casesOn v fun v0 v2 v3 v4 v7 => 
  kBin .eql v3 (.int .i64 15) S fun v8 S8 =>
  κ .normal (V5.mk v0 v2 v3 v8 v7) S8)
def c125_3 : V5 → Value := fun v => (V5.casesOn v fun v0 v2 v3 v4 v7 => v4)
def c125_4 (C : Callee) : Cd V5 := fun v S κ => (V5.casesOn v fun v0 v2 v3 v4 v7 => 
  kBin .eql v3 (.int .i64 14) S fun v8 S8 =>
  κ .normal (V5.mk v0 v2 v3 v8 v7) S8)
def c125_5 : V5 → Value := fun v => (V5.casesOn v fun v0 v2 v3 v4 v7 => v4)
def c125_6 (C : Callee) : Cd V5 := fun v S κ => (V5.casesOn v fun v0 v2 v3 v4 v7 => 
  κ .normal (V5.mk v0 (.int .i64 1) v3 v4 v7) S)
def c125_7 (C : Callee) : Cd V5 := fun v S κ => (V5.casesOn v fun v0 v2 v3 v4 v7 => 
  kBin .eql v3 (.int .i64 13) S fun v8 S8 =>
  κ .normal (V5.mk v0 v2 v3 v4 v8) S8)
def c125_8 : V5 → Value := fun v => (V5.casesOn v fun v0 v2 v3 v4 v7 => v7)
def c125_9 (C : Callee) : Cd V5 := fun v S κ => (V5.casesOn v fun v0 v2 v3 v4 v7 => 
  κ .normal (V5.mk v0 (.int .i64 2) v3 v4 v7) S)
def c125_10 (C : Callee) : Cd V5 := fun v S κ => (V5.casesOn v fun v0 v2 v3 v4 v7 => 
  κ .normal (V5.mk v0 (.int .i64 0) v3 v4 v7) S)
/-- assayer/kind.inner -/
def c125 (C : Callee) (n : Nat) : Cd V5 := seqK (c125_0 C) (seqK (seqK (c125_1 C) (blockK 0 (seqK (seqK (c125_2 C) (condK c125_3 (skipK) (c125_4 C))) (condK c125_5 (seqK (c125_6 C) (retK)) (seqK (c125_7 C) (condK c125_8 (seqK (c125_9 C) (retK)) (skipK))))))) (seqK (c125_10 C) (retK)))
def r125 (v : V5) (S : AW) : R := (V5.casesOn v fun v0 v2 v3 v4 v7 => some (v2, S))
def g125 (C : Callee) (n : Nat) (args : List Value) (S : AW) : R := c125 C n (V5.mk (argV args 0) (argV args 2) (argV args 3) (argV args 4) (argV args 7)) S fun o v S => EX.casesOn o (r125 v S) (fun _ => none) (r125 v S)
/-! (*assayer/kind.cursor).sign -/
def c126_0 (C : Callee) : Cd V3 := fun v S κ => (V3.casesOn v fun v0 v1 v33 => 
  kNilc v0 S fun v34 S34 =>
  kFad 1 v34 S34 fun v35 S35 =>
  kLd none v35 S35 fun v36 S36 =>
  kNilc v0 S36 fun v37 S37 =>
  kFad 0 v37 S37 fun v38 S38 =>
  kLd none v38 S38 fun v39 S39 =>
  kLen true v39 S39 fun v40 S40 =>
  kBin .geq v36 v40 S40 fun v41 S41 =>
  bl v41 fun b => cond b
   (kCall C 105 [v0, (.bool true), (.int .i64 2)] S41 fun v42 S42 =>
   κ .normal (V3.mk v0 v1 v33) S42)
   (kNilc v0 S41 fun v42 S42 =>
   kFad 0 v42 S42 fun v43 S43 =>
   kLd none v43 S43 fun v44 S44 =>
   kNilc v0 S44 fun v45 S45 =>
   kFad 1 v45 S45 fun v46 S46 =>
   kLd none v46 S46 fun v47 S47 =>
   kIdxS v44 v47 S47 fun v48 S48 =>
   kBin .neq v48 v1 S48 fun v49 S49 =>
   kCall C 105 [v0, v49, (.int .i64 2)] S49 fun v50 S50 =>
   κ .normal (V3.mk v0 v1 v33) S50))
def c126_1 (C : Callee) : Cd V3 := fun v S κ => (V3.casesOn v fun v0 v1 v33 => 
  kNilc v0 S fun v34 S34 =>
  kFad 2 v34 S34 fun v35 S35 =>
  kLd none v35 S35 fun v36 S36 =>
  kBin .eql v36 (.int .i64 0) S36 fun v37 S37 =>
  κ .normal (V3.mk v0 v1 v37) S37)
def c126_2 : V3 → Value := fun v => (V3.casesOn v fun v0 v1 v33 => v33)
def c126_3 (C : Callee) : Cd V3 := fun v S κ => (V3.casesOn v fun v0 v1 v33 => 
  kNilc v0 S fun v34 S34 =>
  kFad 1 v34 S34 fun v35 S35 =>
  kLd none v35 S35 fun v36 S36 =>
  kBin .add v36 (.int .i64 1) S36 fun v37 S37 =>
  kNilc v0 S37 fun v38 S38 =>
  kFad 1 v38 S38 fun v39 S39 =>
  kSt 1 v39 v37 S39 fun v40 S40 =>
  κ .normal (V3.mk v0 v1 v33) S40)
/-- (*assayer/kind.cursor).sign -/
def c126 (C : Callee) (n : Nat) : Cd V3 := seqK (c126_0 C) (seqK (c126_1 C) (condK c126_2 (c126_3 C) (skipK)))
def r126 (v : V3) (S : AW) : R := (V3.casesOn v fun v0 v1 v33 => some (.tuple #[], S))
def g126 (C : Callee) (n : Nat) (args : List Value) (S : AW) : R := c126 C n (V3.mk (argV args 0) (argV args 1) (argV args 33)) S fun o v S => EX.casesOn o (r126 v S) (fun _ => none) (r126 v S)
/-! assayer/kind.letter -/
def c134_0 (C : Callee) : Cd V2 := fun v S κ => (V2.casesOn v fun v0 v2 => 
  κ .normal (V2.mk v0 (.bool false)) S)
def c134_1 (C : Callee) : Cd V2 := fun v S κ => (V2.casesOn v fun v0 v2 => 
  kBin .eql v0 (.int .u8 95) S fun v3 S3 =>
  bl v3 fun b => cond b
   (κ .normal (V2.mk v0 (.bool true)) S3)
   (kBin .geq v0 (.int .u8 97) S3 fun v4 S4 =>
   bl v4 fun b => cond b
    (kBin .leq v0 (.int .u8 122) S4 fun v5 S5 =>
    bl v5 fun b => cond b
     (κ .normal (V2.mk v0 (.bool true)) S5)
     (kBin .geq v0 (.int .u8 65) S5 fun v6 S6 =>
     bl v6 fun b => cond b
      (kBin .leq v0 (.int .u8 90) S6 fun v7 S7 =>
      κ .normal (V2.mk v0 v7) S7)
      (κ .normal (V2.mk v0 (.bool false)) S6)))
    (kBin .geq v0 (.int .u8 65) S4 fun v5 S5 =>
    bl v5 fun b => cond b
     (kBin .leq v0 (.int .u8 90) S5 fun v6 S6 =>
     κ .normal (V2.mk v0 v6) S6)
     (κ .normal (V2.mk v0 (.bool false)) S5))))
/-- assayer/kind.letter -/
def c134 (C : Callee) (n : Nat) : Cd V2 := seqK (c134_0 C) (seqK (c134_1 C) (retK))
def r134 (v : V2) (S : AW) : R := (V2.casesOn v fun v0 v2 => some (v2, S))
def g134 (C : Callee) (n : Nat) (args : List Value) (S : AW) : R := c134 C n (V2.mk (argV args 0) (argV args 2)) S fun o v S => EX.casesOn o (r134 v S) (fun _ => none) (r134 v S)
end Go.Proofs.Ytfjoifncipjjcaa.Ev
