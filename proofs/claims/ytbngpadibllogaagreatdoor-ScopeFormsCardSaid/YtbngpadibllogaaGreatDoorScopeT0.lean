/- Functions of the program, each told by what goes on behind each step: printed by a program of ours. -/
import Derived.Test.YtbngpadibllogaaGreatDoorScopeX
import Derived.Test.YtbngpadibllogaaGreatDoorScopeV
namespace Go.Proofs.YtbngpadibllogaaGreatDoor.Ev
open Go Go.RowKit
set_option linter.unusedVariables false
/-! assayer/assayerlaw10.ScopeForms -/
def c4_0 (C : Callee) : Cd V21 := fun v S κ => (V21.casesOn v fun v0 v1 v2 v5 v6 v7 v8 v9 v10 v12 v14 v15 v17 v18 v22 v26 v29 v31 v44 v53 v99 => 
  κ .normal (V21.mk (.bool false) v1 v2 v5 v6 v7 v8 v9 v10 v12 v14 v15 v17 v18 v22 v26 v29 v31 v44 v53 v99) S)
def c4_1 (C : Callee) : Cd V21 := fun v S κ => (V21.casesOn v fun v0 v1 v2 v5 v6 v7 v8 v9 v10 v12 v14 v15 v17 v18 v22 v26 v29 v31 v44 v53 v99 => 
  kCall C 6 [] S fun v100 S100 =>
  kUn .not v100 S100 fun v101 S101 =>
  κ .normal (V21.mk v0 v1 v2 v5 v6 v7 v8 v9 v10 v12 v14 v15 v17 v18 v22 v26 v29 v101 v44 v53 v99) S101)
def c4_2 : V21 → Value := fun v => (V21.casesOn v fun v0 v1 v2 v5 v6 v7 v8 v9 v10 v12 v14 v15 v17 v18 v22 v26 v29 v31 v44 v53 v99 => v31)
def c4_3 (C : Callee) : Cd V21 := fun v S κ => (V21.casesOn v fun v0 v1 v2 v5 v6 v7 v8 v9 v10 v12 v14 v15 v17 v18 v22 v26 v29 v31 v44 v53 v99 => 
  κ .normal (V21.mk (.bool false) v1 v2 v5 v6 v7 v8 v9 v10 v12 v14 v15 v17 v18 v22 v26 v29 v31 v44 v53 v99) S)
def c4_4 (C : Callee) : Cd V21 := fun v S κ => (V21.casesOn v fun v0 v1 v2 v5 v6 v7 v8 v9 v10 v12 v14 v15 v17 v18 v22 v26 v29 v31 v44 v53 v99 => 
  kBuild [.string ⟨#[]⟩, .string ⟨#[]⟩] [(0, 1, (.string ⟨#[97]⟩)), (1, 1, (.string ⟨#[105, 110, 99, 108, 117, 100, 101, 32, 39, 98, 39, 32, 99, 111, 110, 115, 116, 32, 105, 56, 32, 88, 32, 61, 32, 49, 32, 101, 110, 117, 109, 32, 98, 32, 123, 88, 125, 32, 101, 110, 117, 109, 32, 70, 32, 123, 71, 125]⟩))] S fun v100 S100 =>
  kBuild [.string ⟨#[]⟩, .string ⟨#[]⟩] [(0, 1, (.string ⟨#[98]⟩)), (1, 1, (.string ⟨#[105, 110, 99, 108, 117, 100, 101, 32, 39, 99, 39, 32, 99, 111, 110, 115, 116, 32, 105, 56, 32, 88, 32, 61, 32, 50, 32, 101, 110, 117, 109, 32, 69, 32, 123, 89, 125]⟩))] S100 fun v101 S101 =>
  kBuild [.string ⟨#[]⟩, .string ⟨#[]⟩] [(0, 1, (.string ⟨#[99]⟩)), (1, 1, (.string ⟨#[101, 110, 117, 109, 32, 69, 32, 123, 89, 125, 32, 99, 111, 110, 115, 116, 32, 105, 56, 32, 90, 32, 61, 32, 49]⟩))] S101 fun v102 S102 =>
  kLit 57 2 [.string ⟨#[]⟩, .string ⟨#[]⟩] 3 [(0, 2, v100), (2, 2, v101), (4, 2, v102)] S102 fun v103 S103 =>
  kBuild [.string ⟨#[]⟩, .slice none 0 0] [(0, 1, (.string ⟨#[97]⟩)), (1, 1, v103)] S103 fun v104 S104 =>
  kCall C 7 [v104] S104 fun v105 S105 =>
  kExt 0 v105 S105 fun v106 S106 =>
  kExt 1 v105 S106 fun v107 S107 =>
  kExt 2 v105 S107 fun v108 S108 =>
  kExt 3 v105 S108 fun v109 S109 =>
  kNew 27 2 [.slice none 0 0, .slice none 0 0] S109 fun v110 S110 =>
  kSt 2 v110 v106 S110 fun v111 S111 =>
  κ .normal (V21.mk v0 v110 v107 v5 v6 v7 v8 v9 v10 v12 v14 v15 v17 v18 v22 v26 v29 v31 v44 v53 v99) S111)
def c4_5 (C : Callee) : Cd V21 := fun v S κ => (V21.casesOn v fun v0 v1 v2 v5 v6 v7 v8 v9 v10 v12 v14 v15 v17 v18 v22 v26 v29 v31 v44 v53 v99 => 
  kBin .neq v2 (.int .i64 0) S fun v100 S100 =>
  κ .normal (V21.mk v0 v1 v2 v5 v6 v7 v8 v9 v10 v12 v14 v15 v17 v18 v22 v26 v29 v31 v100 v53 v99) S100)
def c4_6 : V21 → Value := fun v => (V21.casesOn v fun v0 v1 v2 v5 v6 v7 v8 v9 v10 v12 v14 v15 v17 v18 v22 v26 v29 v31 v44 v53 v99 => v44)
def c4_7 (C : Callee) : Cd V21 := fun v S κ => (V21.casesOn v fun v0 v1 v2 v5 v6 v7 v8 v9 v10 v12 v14 v15 v17 v18 v22 v26 v29 v31 v44 v53 v99 => 
  κ .normal (V21.mk (.bool false) v1 v2 v5 v6 v7 v8 v9 v10 v12 v14 v15 v17 v18 v22 v26 v29 v31 v44 v53 v99) S)
def c4_8 (C : Callee) : Cd V21 := fun v S κ => (V21.casesOn v fun v0 v1 v2 v5 v6 v7 v8 v9 v10 v12 v14 v15 v17 v18 v22 v26 v29 v31 v44 v53 v99 => 
  kLd (some 2) v1 S fun v100 S100 =>
  kCall C 10 [v100] S100 fun v101 S101 =>
  kNew 37 2 [.slice none 0 0, .slice none 0 0] S101 fun v102 S102 =>
  kSt 2 v102 v101 S102 fun v103 S103 =>
  κ .normal (V21.mk v0 v1 v2 v102 v6 v7 v8 v9 v10 v12 v14 v15 v17 v18 v22 v26 v29 v31 v44 v53 v99) S103)
def c4_9 (C : Callee) : Cd V21 := fun v S κ => (V21.casesOn v fun v0 v1 v2 v5 v6 v7 v8 v9 v10 v12 v14 v15 v17 v18 v22 v26 v29 v31 v44 v53 v99 => 
  kLit 9 1 [.string ⟨#[]⟩] 14 [(0, 1, (.string ⟨#[88]⟩)), (1, 1, (.string ⟨#[98, 46, 88]⟩)), (2, 1, (.string ⟨#[98, 46, 69, 46, 89]⟩)), (3, 1, (.string ⟨#[98, 46, 69, 46, 90]⟩)), (4, 1, (.string ⟨#[70, 46, 71]⟩)), (5, 1, (.string ⟨#[97, 46, 70, 46, 71]⟩)), (6, 1, (.string ⟨#[99, 46, 90]⟩)), (7, 1, (.string ⟨#[99, 46, 69, 46, 89]⟩)), (8, 1, (.string ⟨#[69, 46, 89]⟩)), (9, 1, (.string ⟨#[97, 46, 88]⟩)), (10, 1, (.string ⟨#[97, 46, 98, 46, 88]⟩)), (11, 1, (.string ⟨#[98, 46, 98, 46, 88]⟩)), (12, 1, (.string ⟨#[70]⟩)), (13, 1, (.string ⟨#[98, 46, 69]⟩))] S fun v100 S100 =>
  κ .normal (V21.mk v0 v1 v2 v5 v100 v7 v8 v9 v10 v12 v14 v15 v17 v18 v22 v26 v29 v31 v44 v53 v99) S100)
def c4_10 (C : Callee) : Cd V21 := fun v S κ => (V21.casesOn v fun v0 v1 v2 v5 v6 v7 v8 v9 v10 v12 v14 v15 v17 v18 v22 v26 v29 v31 v44 v53 v99 => 
  kLit 9 1 [.string ⟨#[]⟩] 14 [(0, 1, (.string ⟨#[97, 46, 88]⟩)), (1, 1, (.string ⟨#[98, 46, 88]⟩)), (2, 1, (.string ⟨#[98, 46, 69]⟩)), (3, 1, (.string ⟨#[]⟩)), (4, 1, (.string ⟨#[97, 46, 70]⟩)), (5, 1, (.string ⟨#[97, 46, 70]⟩)), (6, 1, (.string ⟨#[]⟩)), (7, 1, (.string ⟨#[]⟩)), (8, 1, (.string ⟨#[]⟩)), (9, 1, (.string ⟨#[97, 46, 88]⟩)), (10, 1, (.string ⟨#[97, 46, 98]⟩)), (11, 1, (.string ⟨#[]⟩)), (12, 1, (.string ⟨#[]⟩)), (13, 1, (.string ⟨#[]⟩))] S fun v100 S100 =>
  κ .normal (V21.mk v0 v1 v2 v5 v6 v100 v8 v9 v10 v12 v14 v15 v17 v18 v22 v26 v29 v31 v44 v53 v99) S100)
def c4_11 (C : Callee) : Cd V21 := fun v S κ => (V21.casesOn v fun v0 v1 v2 v5 v6 v7 v8 v9 v10 v12 v14 v15 v17 v18 v22 v26 v29 v31 v44 v53 v99 => 
  kLit 9 1 [.string ⟨#[]⟩] 14 [(0, 1, (.string ⟨#[]⟩)), (1, 1, (.string ⟨#[]⟩)), (2, 1, (.string ⟨#[89]⟩)), (3, 1, (.string ⟨#[]⟩)), (4, 1, (.string ⟨#[71]⟩)), (5, 1, (.string ⟨#[71]⟩)), (6, 1, (.string ⟨#[]⟩)), (7, 1, (.string ⟨#[]⟩)), (8, 1, (.string ⟨#[]⟩)), (9, 1, (.string ⟨#[]⟩)), (10, 1, (.string ⟨#[88]⟩)), (11, 1, (.string ⟨#[]⟩)), (12, 1, (.string ⟨#[]⟩)), (13, 1, (.string ⟨#[]⟩))] S fun v100 S100 =>
  κ .normal (V21.mk v0 v1 v2 v5 v6 v7 v100 v9 v10 v12 v14 v15 v17 v18 v22 v26 v29 v31 v44 v53 v99) S100)
def c4_12 (C : Callee) : Cd V21 := fun v S κ => (V21.casesOn v fun v0 v1 v2 v5 v6 v7 v8 v9 v10 v12 v14 v15 v17 v18 v22 v26 v29 v31 v44 v53 v99 => 
  κ .normal (V21.mk v0 v1 v2 v5 v6 v7 v8 (.int .i64 0) v10 v12 v14 v15 v17 v18 v22 v26 v29 v31 v44 v53 v99) S)
def c4_13 (C : Callee) : Cd V21 := fun v S κ => (V21.casesOn v fun v0 v1 v2 v5 v6 v7 v8 v9 v10 v12 v14 v15 v17 v18 v22 v26 v29 v31 v44 v53 v99 => 
  kLen false v6 S fun v100 S100 =>
  kBin .lss v9 v100 S100 fun v101 S101 =>
  κ .normal (V21.mk v0 v1 v2 v5 v6 v7 v8 v9 v10 v12 v14 v15 v17 v18 v22 v26 v29 v31 v44 v101 v99) S101)
def c4_14 : V21 → Value := fun v => (V21.casesOn v fun v0 v1 v2 v5 v6 v7 v8 v9 v10 v12 v14 v15 v17 v18 v22 v26 v29 v31 v44 v53 v99 => v53)
def c4_15 (C : Callee) : Cd V21 := fun v S κ => (V21.casesOn v fun v0 v1 v2 v5 v6 v7 v8 v9 v10 v12 v14 v15 v17 v18 v22 v26 v29 v31 v44 v53 v99 => 
  kLd (some 2) v5 S fun v100 S100 =>
  kIad 1 v6 v9 S100 fun v101 S101 =>
  kLd none v101 S101 fun v102 S102 =>
  kNew 51 12 [.int .i64 0, .string ⟨#[]⟩, .string ⟨#[]⟩, .int .i64 0, .int .i64 0, .int .u64 0, .string ⟨#[]⟩, .slice none 0 0, .slice none 0 0, .slice none 0 0, .string ⟨#[]⟩, .slice none 0 0] S102 fun v103 S103 =>
  kLd none v101 S103 fun u _ => cond (veqB u v102)
   (kLd (some 2) v5 S103 fun u _ => cond (veqB u v100)
    (kCall C 13 [v100, (.string ⟨#[97]⟩), v102] S103 fun v105 S105 =>
    kExt 0 v105 S105 fun v106 S106 =>
    kExt 1 v105 S106 fun v107 S107 =>
    kExt 2 v105 S107 fun v108 S108 =>
    kExt 3 v105 S108 fun v109 S109 =>
    kExt 4 v105 S109 fun v110 S110 =>
    cond (rowSame S110 S103 v103)
     (kSt 12 v103 v107 S110 fun v111 S111 =>
     κ .normal (V21.mk v0 v1 v2 v5 v6 v7 v8 v9 v106 v108 v110 v15 v17 v18 v22 v26 v29 v31 v44 v53 v99) S111) none) none) none)
def c4_16 (C : Callee) : Cd V21 := fun v S κ => (V21.casesOn v fun v0 v1 v2 v5 v6 v7 v8 v9 v10 v12 v14 v15 v17 v18 v22 v26 v29 v31 v44 v53 v99 => 
  kIad 1 v7 v9 S fun v100 S100 =>
  kLd none v100 S100 fun v101 S101 =>
  kBin .neq v10 v101 S101 fun v102 S102 =>
  bl v102 fun b => cond b
   (κ .normal (V21.mk v0 v1 v2 v5 v6 v7 v8 v9 v10 v12 v14 v15 v17 v18 v22 v26 v29 v31 v44 v53 (.bool true)) S102)
   (kIad 1 v8 v9 S102 fun v103 S103 =>
   kLd none v103 S103 fun v104 S104 =>
   kBin .neq v12 v104 S104 fun v105 S105 =>
   bl v105 fun b => cond b
    (κ .normal (V21.mk v0 v1 v2 v5 v6 v7 v8 v9 v10 v12 v14 v15 v17 v18 v22 v26 v29 v31 v44 v53 (.bool true)) S105)
    (kBin .eql v14 (.int .i64 0) S105 fun v106 S106 =>
    kIad 1 v7 v9 S106 fun v107 S107 =>
    kLd none v107 S107 fun v108 S108 =>
    kBin .neq v108 (.string ⟨#[]⟩) S108 fun v109 S109 =>
    kEqB true v106 v109 S109 fun v110 S110 =>
    bl v110 fun b => cond b
     (κ .normal (V21.mk v0 v1 v2 v5 v6 v7 v8 v9 v10 v12 v14 v15 v17 v18 v22 v26 v29 v31 v44 v53 (.bool true)) S110)
     (kBin .neq v14 (.int .i64 0) S110 fun v111 S111 =>
     bl v111 fun b => cond b
      (kBin .neq v14 (.int .i64 7) S111 fun v112 S112 =>
      κ .normal (V21.mk v0 v1 v2 v5 v6 v7 v8 v9 v10 v12 v14 v15 v17 v18 v22 v26 v29 v31 v44 v53 v112) S112)
      (κ .normal (V21.mk v0 v1 v2 v5 v6 v7 v8 v9 v10 v12 v14 v15 v17 v18 v22 v26 v29 v31 v44 v53 (.bool false)) S111)))))
def c4_17 : V21 → Value := fun v => (V21.casesOn v fun v0 v1 v2 v5 v6 v7 v8 v9 v10 v12 v14 v15 v17 v18 v22 v26 v29 v31 v44 v53 v99 => v99)
def c4_18 (C : Callee) : Cd V21 := fun v S κ => (V21.casesOn v fun v0 v1 v2 v5 v6 v7 v8 v9 v10 v12 v14 v15 v17 v18 v22 v26 v29 v31 v44 v53 v99 => 
  κ .normal (V21.mk (.bool false) v1 v2 v5 v6 v7 v8 v9 v10 v12 v14 v15 v17 v18 v22 v26 v29 v31 v44 v53 v99) S)
def c4_19 (C : Callee) : Cd V21 := fun v S κ => (V21.casesOn v fun v0 v1 v2 v5 v6 v7 v8 v9 v10 v12 v14 v15 v17 v18 v22 v26 v29 v31 v44 v53 v99 => 
  kBin .add v9 (.int .i64 1) S fun v100 S100 =>
  κ .normal (V21.mk v0 v1 v2 v5 v6 v7 v8 v100 v10 v12 v14 v15 v17 v18 v22 v26 v29 v31 v44 v53 v99) S100)
def c4_20 (C : Callee) (n : Nat) : Cd V21 := seqK (seqK (c4_13 C) (condK c4_14 (skipK) (exitK 0))) (seqK (blockK 1 (seqK (c4_15 C) (seqK (c4_16 C) (condK c4_17 (seqK (c4_18 C) (retK)) (skipK))))) (c4_19 C))
def c4_21 (C : Callee) : Cd V21 := fun v S κ => (V21.casesOn v fun v0 v1 v2 v5 v6 v7 v8 v9 v10 v12 v14 v15 v17 v18 v22 v26 v29 v31 v44 v53 v99 => 
  kLd (some 2) v5 S fun v100 S100 =>
  kCall C 11 [v100, (.string ⟨#[98]⟩), (.string ⟨#[99, 46, 69]⟩)] S100 fun v101 S101 =>
  kExt 0 v101 S101 fun v102 S102 =>
  kExt 1 v101 S102 fun v103 S103 =>
  kExt 2 v101 S103 fun v104 S104 =>
  kExt 3 v101 S104 fun v105 S105 =>
  kNew 51 12 [.int .i64 0, .string ⟨#[]⟩, .string ⟨#[]⟩, .int .i64 0, .int .i64 0, .int .u64 0, .string ⟨#[]⟩, .slice none 0 0, .slice none 0 0, .slice none 0 0, .string ⟨#[]⟩, .slice none 0 0] S105 fun v106 S106 =>
  kSt 12 v106 v103 S106 fun v107 S107 =>
  κ .normal (V21.mk v0 v1 v2 v5 v6 v7 v8 v9 v10 v12 v14 v102 v104 v105 v22 v26 v29 v31 v44 v53 v99) S107)
def c4_22 (C : Callee) : Cd V21 := fun v S κ => (V21.casesOn v fun v0 v1 v2 v5 v6 v7 v8 v9 v10 v12 v14 v15 v17 v18 v22 v26 v29 v31 v44 v53 v99 => 
  kLd (some 2) v5 S fun v100 S100 =>
  kCall C 11 [v100, (.string ⟨#[97]⟩), (.string ⟨#[99, 46, 69]⟩)] S100 fun v101 S101 =>
  kExt 0 v101 S101 fun v102 S102 =>
  kExt 1 v101 S102 fun v103 S103 =>
  kExt 2 v101 S103 fun v104 S104 =>
  kExt 3 v101 S104 fun v105 S105 =>
  kNew 51 12 [.int .i64 0, .string ⟨#[]⟩, .string ⟨#[]⟩, .int .i64 0, .int .i64 0, .int .u64 0, .string ⟨#[]⟩, .slice none 0 0, .slice none 0 0, .slice none 0 0, .string ⟨#[]⟩, .slice none 0 0] S105 fun v106 S106 =>
  kSt 12 v106 v103 S106 fun v107 S107 =>
  κ .normal (V21.mk v0 v1 v2 v5 v6 v7 v8 v9 v10 v12 v14 v15 v17 v18 v105 v26 v29 v31 v44 v53 v99) S107)
def c4_23 (C : Callee) : Cd V21 := fun v S κ => (V21.casesOn v fun v0 v1 v2 v5 v6 v7 v8 v9 v10 v12 v14 v15 v17 v18 v22 v26 v29 v31 v44 v53 v99 => 
  kLd (some 2) v5 S fun v100 S100 =>
  kCall C 11 [v100, (.string ⟨#[110, 111, 110, 101]⟩), (.string ⟨#[69]⟩)] S100 fun v101 S101 =>
  kExt 0 v101 S101 fun v102 S102 =>
  kExt 1 v101 S102 fun v103 S103 =>
  kExt 2 v101 S103 fun v104 S104 =>
  kExt 3 v101 S104 fun v105 S105 =>
  kNew 51 12 [.int .i64 0, .string ⟨#[]⟩, .string ⟨#[]⟩, .int .i64 0, .int .i64 0, .int .u64 0, .string ⟨#[]⟩, .slice none 0 0, .slice none 0 0, .slice none 0 0, .string ⟨#[]⟩, .slice none 0 0] S105 fun v106 S106 =>
  kSt 12 v106 v103 S106 fun v107 S107 =>
  κ .normal (V21.mk v0 v1 v2 v5 v6 v7 v8 v9 v10 v12 v14 v15 v17 v18 v22 v105 v29 v31 v44 v53 v99) S107)
def c4_24 (C : Callee) : Cd V21 := fun v S κ => (V21.casesOn v fun v0 v1 v2 v5 v6 v7 v8 v9 v10 v12 v14 v15 v17 v18 v22 v26 v29 v31 v44 v53 v99 => 
  kLd (some 2) v5 S fun v100 S100 =>
  kCall C 14 [v100] S100 fun v101 S101 =>
  kExt 0 v101 S101 fun v102 S102 =>
  kExt 1 v101 S102 fun v103 S103 =>
  kExt 2 v101 S103 fun v104 S104 =>
  κ .normal (V21.mk v0 v1 v2 v5 v6 v7 v8 v9 v10 v12 v14 v15 v17 v18 v22 v26 v104 v31 v44 v53 v99) S104)
def c4_25 (C : Callee) : Cd V21 := fun v S κ => (V21.casesOn v fun v0 v1 v2 v5 v6 v7 v8 v9 v10 v12 v14 v15 v17 v18 v22 v26 v29 v31 v44 v53 v99 => 
  kBin .eql v15 (.string ⟨#[99, 46, 69]⟩) S fun v100 S100 =>
  bl v100 fun b => cond b
   (kBin .eql v17 (.string ⟨#[99]⟩) S100 fun v101 S101 =>
   bl v101 fun b => cond b
    (kBin .eql v18 (.int .i64 0) S101 fun v102 S102 =>
    bl v102 fun b => cond b
     (kBin .eql v22 (.int .i64 7) S102 fun v103 S103 =>
     bl v103 fun b => cond b
      (kBin .eql v26 (.int .i64 7) S103 fun v104 S104 =>
      bl v104 fun b => cond b
       (kUn .not v29 S104 fun v105 S105 =>
       κ .normal (V21.mk v105 v1 v2 v5 v6 v7 v8 v9 v10 v12 v14 v15 v17 v18 v22 v26 v29 v31 v44 v53 v99) S105)
       (κ .normal (V21.mk (.bool false) v1 v2 v5 v6 v7 v8 v9 v10 v12 v14 v15 v17 v18 v22 v26 v29 v31 v44 v53 v99) S104))
      (κ .normal (V21.mk (.bool false) v1 v2 v5 v6 v7 v8 v9 v10 v12 v14 v15 v17 v18 v22 v26 v29 v31 v44 v53 v99) S103))
     (κ .normal (V21.mk (.bool false) v1 v2 v5 v6 v7 v8 v9 v10 v12 v14 v15 v17 v18 v22 v26 v29 v31 v44 v53 v99) S102))
    (κ .normal (V21.mk (.bool false) v1 v2 v5 v6 v7 v8 v9 v10 v12 v14 v15 v17 v18 v22 v26 v29 v31 v44 v53 v99) S101))
   (κ .normal (V21.mk (.bool false) v1 v2 v5 v6 v7 v8 v9 v10 v12 v14 v15 v17 v18 v22 v26 v29 v31 v44 v53 v99) S100))
/-- assayer/assayerlaw10.ScopeForms -/
def c4 (C : Callee) (n : Nat) : Cd V21 := seqK (c4_0 C) (seqK (seqK (c4_1 C) (condK c4_2 (seqK (c4_3 C) (retK)) (skipK))) (seqK (c4_4 C) (seqK (seqK (c4_5 C) (condK c4_6 (seqK (c4_7 C) (retK)) (skipK))) (seqK (c4_8 C) (seqK (c4_9 C) (seqK (c4_10 C) (seqK (c4_11 C) (seqK (seqK (c4_12 C) (blockK 0 (loopK n (c4_20 C n)))) (seqK (c4_21 C) (seqK (c4_22 C) (seqK (c4_23 C) (seqK (c4_24 C) (seqK (c4_25 C) (retK))))))))))))))
def r4 (v : V21) (S : AW) : R := (V21.casesOn v fun v0 v1 v2 v5 v6 v7 v8 v9 v10 v12 v14 v15 v17 v18 v22 v26 v29 v31 v44 v53 v99 => some (v0, S))
def g4 (C : Callee) (n : Nat) (args : List Value) (S : AW) : R := c4 C n (V21.mk (argV args 0) (argV args 1) (argV args 2) (argV args 5) (argV args 6) (argV args 7) (argV args 8) (argV args 9) (argV args 10) (argV args 12) (argV args 14) (argV args 15) (argV args 17) (argV args 18) (argV args 22) (argV args 26) (argV args 29) (argV args 31) (argV args 44) (argV args 53) (argV args 99)) S fun o v S => EX.casesOn o (r4 v S) (fun _ => none) (r4 v S)
/-! assayer/assayerlaw10.begun -/
def c6_0 (C : Callee) : Cd V12 := fun v S κ => (V12.casesOn v fun v0 v1 v5 v6 v7 v8 v9 v12 v14 v15 v16 v17 => 
  κ .normal (V12.mk (.bool false) v1 v5 v6 v7 v8 v9 v12 v14 v15 v16 v17) S)
def c6_1 (C : Callee) : Cd V12 := fun v S κ => (V12.casesOn v fun v0 v1 v5 v6 v7 v8 v9 v12 v14 v15 v16 v17 => 
  kBuild [.string ⟨#[]⟩, .string ⟨#[]⟩] [(0, 1, (.string ⟨#[97]⟩)), (1, 1, (.string ⟨#[105, 110, 99, 108, 117, 100, 101, 32, 39, 98, 39, 32, 101, 110, 117, 109, 32, 69, 32, 123, 88, 125]⟩))] S fun v18 S18 =>
  kBuild [.string ⟨#[]⟩, .string ⟨#[]⟩] [(0, 1, (.string ⟨#[98]⟩)), (1, 1, (.string ⟨#[115, 116, 114, 117, 99, 116, 32, 67, 32, 123, 125, 32, 115, 116, 114, 117, 99, 116, 32, 67, 32, 123, 125]⟩))] S18 fun v19 S19 =>
  kLit 57 2 [.string ⟨#[]⟩, .string ⟨#[]⟩] 2 [(0, 2, v18), (2, 2, v19)] S19 fun v20 S20 =>
  kBuild [.string ⟨#[]⟩, .slice none 0 0] [(0, 1, (.string ⟨#[97]⟩)), (1, 1, v20)] S20 fun v21 S21 =>
  kCall C 7 [v21] S21 fun v22 S22 =>
  kExt 0 v22 S22 fun v23 S23 =>
  kExt 1 v22 S23 fun v24 S24 =>
  kExt 2 v22 S24 fun v25 S25 =>
  kExt 3 v22 S25 fun v26 S26 =>
  kNew 27 2 [.slice none 0 0, .slice none 0 0] S26 fun v27 S27 =>
  kSt 2 v27 v23 S27 fun v28 S28 =>
  κ .normal (V12.mk v0 v27 v5 v6 v7 v8 v9 v12 v14 v15 v16 v17) S28)
def c6_2 (C : Callee) : Cd V12 := fun v S κ => (V12.casesOn v fun v0 v1 v5 v6 v7 v8 v9 v12 v14 v15 v16 v17 => 
  kLd (some 2) v1 S fun v18 S18 =>
  kCall C 10 [v18] S18 fun v19 S19 =>
  kNew 37 2 [.slice none 0 0, .slice none 0 0] S19 fun v20 S20 =>
  kSt 2 v20 v19 S20 fun v21 S21 =>
  κ .normal (V12.mk v0 v1 v20 v6 v7 v8 v9 v12 v14 v15 v16 v17) S21)
def c6_3 (C : Callee) : Cd V12 := fun v S κ => (V12.casesOn v fun v0 v1 v5 v6 v7 v8 v9 v12 v14 v15 v16 v17 => 
  kLd (some 2) v5 S fun v18 S18 =>
  kCall C 11 [v18, (.string ⟨#[97]⟩), (.string ⟨#[98, 46, 67]⟩)] S18 fun v19 S19 =>
  kExt 0 v19 S19 fun v20 S20 =>
  kExt 1 v19 S20 fun v21 S21 =>
  kExt 2 v19 S21 fun v22 S22 =>
  kExt 3 v19 S22 fun v23 S23 =>
  kNew 51 12 [.int .i64 0, .string ⟨#[]⟩, .string ⟨#[]⟩, .int .i64 0, .int .i64 0, .int .u64 0, .string ⟨#[]⟩, .slice none 0 0, .slice none 0 0, .slice none 0 0, .string ⟨#[]⟩, .slice none 0 0] S23 fun v24 S24 =>
  kSt 12 v24 v21 S24 fun v25 S25 =>
  κ .normal (V12.mk v0 v1 v5 v20 v24 v22 v23 v12 v14 v15 v16 v17) S25)
def c6_4 (C : Callee) : Cd V12 := fun v S κ => (V12.casesOn v fun v0 v1 v5 v6 v7 v8 v9 v12 v14 v15 v16 v17 => 
  kLd (some 2) v5 S fun v18 S18 =>
  kCall C 13 [v18, (.string ⟨#[97]⟩), (.string ⟨#[69, 46, 88]⟩)] S18 fun v19 S19 =>
  kExt 0 v19 S19 fun v20 S20 =>
  kExt 1 v19 S20 fun v21 S21 =>
  kExt 2 v19 S21 fun v22 S22 =>
  kExt 3 v19 S22 fun v23 S23 =>
  kExt 4 v19 S23 fun v24 S24 =>
  kNew 51 12 [.int .i64 0, .string ⟨#[]⟩, .string ⟨#[]⟩, .int .i64 0, .int .i64 0, .int .u64 0, .string ⟨#[]⟩, .slice none 0 0, .slice none 0 0, .slice none 0 0, .string ⟨#[]⟩, .slice none 0 0] S24 fun v25 S25 =>
  kSt 12 v25 v21 S25 fun v26 S26 =>
  κ .normal (V12.mk v0 v1 v5 v6 v7 v8 v9 v22 v24 v15 v16 v17) S26)
def c6_5 (C : Callee) : Cd V12 := fun v S κ => (V12.casesOn v fun v0 v1 v5 v6 v7 v8 v9 v12 v14 v15 v16 v17 => 
  kLd (some 2) v5 S fun v18 S18 =>
  kCall C 14 [v18] S18 fun v19 S19 =>
  kExt 0 v19 S19 fun v20 S20 =>
  kExt 1 v19 S20 fun v21 S21 =>
  kExt 2 v19 S21 fun v22 S22 =>
  κ .normal (V12.mk v0 v1 v5 v6 v7 v8 v9 v12 v14 v20 v21 v22) S22)
def c6_6 (C : Callee) : Cd V12 := fun v S κ => (V12.casesOn v fun v0 v1 v5 v6 v7 v8 v9 v12 v14 v15 v16 v17 => 
  kBin .eql v6 (.string ⟨#[98, 46, 67]⟩) S fun v18 S18 =>
  bl v18 fun b => cond b
   (kFad 1 v7 S18 fun v19 S19 =>
   kLd none v19 S19 fun v20 S20 =>
   kBin .eql v20 (.string ⟨#[67]⟩) S20 fun v21 S21 =>
   bl v21 fun b => cond b
    (kBin .eql v8 (.string ⟨#[98]⟩) S21 fun v22 S22 =>
    bl v22 fun b => cond b
     (kBin .eql v9 (.int .i64 0) S22 fun v23 S23 =>
     bl v23 fun b => cond b
      (kBin .eql v12 (.string ⟨#[88]⟩) S23 fun v24 S24 =>
      bl v24 fun b => cond b
       (kBin .eql v14 (.int .i64 0) S24 fun v25 S25 =>
       bl v25 fun b => cond b
        (bl v17 fun b => cond b
         (kBin .eql v15 (.string ⟨#[98]⟩) S25 fun v26 S26 =>
         bl v26 fun b => cond b
          (kBin .eql v16 (.string ⟨#[67]⟩) S26 fun v27 S27 =>
          κ .normal (V12.mk v27 v1 v5 v6 v7 v8 v9 v12 v14 v15 v16 v17) S27)
          (κ .normal (V12.mk (.bool false) v1 v5 v6 v7 v8 v9 v12 v14 v15 v16 v17) S26))
         (κ .normal (V12.mk (.bool false) v1 v5 v6 v7 v8 v9 v12 v14 v15 v16 v17) S25))
        (κ .normal (V12.mk (.bool false) v1 v5 v6 v7 v8 v9 v12 v14 v15 v16 v17) S25))
       (κ .normal (V12.mk (.bool false) v1 v5 v6 v7 v8 v9 v12 v14 v15 v16 v17) S24))
      (κ .normal (V12.mk (.bool false) v1 v5 v6 v7 v8 v9 v12 v14 v15 v16 v17) S23))
     (κ .normal (V12.mk (.bool false) v1 v5 v6 v7 v8 v9 v12 v14 v15 v16 v17) S22))
    (κ .normal (V12.mk (.bool false) v1 v5 v6 v7 v8 v9 v12 v14 v15 v16 v17) S21))
   (κ .normal (V12.mk (.bool false) v1 v5 v6 v7 v8 v9 v12 v14 v15 v16 v17) S18))
/-- assayer/assayerlaw10.begun -/
def c6 (C : Callee) (n : Nat) : Cd V12 := seqK (c6_0 C) (seqK (c6_1 C) (seqK (c6_2 C) (seqK (c6_3 C) (seqK (c6_4 C) (seqK (c6_5 C) (seqK (c6_6 C) (retK)))))))
def r6 (v : V12) (S : AW) : R := (V12.casesOn v fun v0 v1 v5 v6 v7 v8 v9 v12 v14 v15 v16 v17 => some (v0, S))
def g6 (C : Callee) (n : Nat) (args : List Value) (S : AW) : R := c6 C n (V12.mk (argV args 0) (argV args 1) (argV args 5) (argV args 6) (argV args 7) (argV args 8) (argV args 9) (argV args 12) (argV args 14) (argV args 15) (argV args 16) (argV args 17)) S fun o v S => EX.casesOn o (r6 v S) (fun _ => none) (r6 v S)
/-! assayer/assayerref9.Load -/
def c7_0 (C : Callee) : Cd V19 := fun v S κ => (V19.casesOn v fun v0 v1 v2 v3 v4 v5 v6 v7 v8 v9 v11 v15 v21 v26 v41 v53 v63 v82 v94 => 
  kBox 33 2 v0 S fun v95 S95 =>
  kNew 27 2 [.slice none 0 0, .slice none 0 0] S95 fun v96 S96 =>
  κ .normal (V19.mk v0 v95 v96 (.int .i64 0) (.string ⟨#[]⟩) (.int .i64 0) v6 v7 v8 v9 v11 v15 v21 v26 v41 v53 v63 v82 v94) S96)
def c7_1 (C : Callee) : Cd V19 := fun v S κ => (V19.casesOn v fun v0 v1 v2 v3 v4 v5 v6 v7 v8 v9 v11 v15 v21 v26 v41 v53 v63 v82 v94 => 
  kFad 1 v1 S fun v95 S95 =>
  kLd none v95 S95 fun v96 S96 =>
  kLen false v96 S96 fun v97 S97 =>
  kBin .gtr v97 (.int .i64 5) S97 fun v98 S98 =>
  κ .normal (V19.mk v0 v1 v2 v3 v4 v5 v6 v7 v8 v9 v11 v98 v21 v26 v41 v53 v63 v82 v94) S98)
def c7_2 : V19 → Value := fun v => (V19.casesOn v fun v0 v1 v2 v3 v4 v5 v6 v7 v8 v9 v11 v15 v21 v26 v41 v53 v63 v82 v94 => v15)
def c7_3 (C : Callee) : Cd V19 := fun v S κ => (V19.casesOn v fun v0 v1 v2 v3 v4 v5 v6 v7 v8 v9 v11 v15 v21 v26 v41 v53 v63 v82 v94 => 
  kBuild [.slice none 0 0, .slice none 0 0] [] S fun v95 S95 =>
  kSt 2 v2 v95 S95 fun v96 S96 =>
  κ .normal (V19.mk v0 v1 v2 (.int .i64 4) (.string ⟨#[]⟩) (.int .i64 0) v6 v7 v8 v9 v11 v15 v21 v26 v41 v53 v63 v82 v94) S96)
def c7_4 (C : Callee) : Cd V19 := fun v S κ => (V19.casesOn v fun v0 v1 v2 v3 v4 v5 v6 v7 v8 v9 v11 v15 v21 v26 v41 v53 v63 v82 v94 => 
  κ .normal (V19.mk v0 v1 v2 v3 v4 v5 (.int .i64 0) v7 v8 v9 v11 v15 v21 v26 v41 v53 v63 v82 v94) S)
def c7_5 (C : Callee) : Cd V19 := fun v S κ => (V19.casesOn v fun v0 v1 v2 v3 v4 v5 v6 v7 v8 v9 v11 v15 v21 v26 v41 v53 v63 v82 v94 => 
  kFad 1 v1 S fun v95 S95 =>
  kLd none v95 S95 fun v96 S96 =>
  kLen false v96 S96 fun v97 S97 =>
  kBin .lss v6 v97 S97 fun v98 S98 =>
  κ .normal (V19.mk v0 v1 v2 v3 v4 v5 v6 v7 v8 v9 v11 v15 v98 v26 v41 v53 v63 v82 v94) S98)
def c7_6 : V19 → Value := fun v => (V19.casesOn v fun v0 v1 v2 v3 v4 v5 v6 v7 v8 v9 v11 v15 v21 v26 v41 v53 v63 v82 v94 => v21)
def c7_7 (C : Callee) : Cd V19 := fun v S κ => (V19.casesOn v fun v0 v1 v2 v3 v4 v5 v6 v7 v8 v9 v11 v15 v21 v26 v41 v53 v63 v82 v94 => 
  κ .normal (V19.mk v0 v1 v2 v3 v4 v5 v6 (.int .i64 0) v8 v9 v11 v15 v21 v26 v41 v53 v63 v82 v94) S)
def c7_8 (C : Callee) : Cd V19 := fun v S κ => (V19.casesOn v fun v0 v1 v2 v3 v4 v5 v6 v7 v8 v9 v11 v15 v21 v26 v41 v53 v63 v82 v94 => 
  kBin .lss v7 v6 S fun v95 S95 =>
  κ .normal (V19.mk v0 v1 v2 v3 v4 v5 v6 v7 v8 v9 v11 v15 v21 v95 v41 v53 v63 v82 v94) S95)
def c7_9 : V19 → Value := fun v => (V19.casesOn v fun v0 v1 v2 v3 v4 v5 v6 v7 v8 v9 v11 v15 v21 v26 v41 v53 v63 v82 v94 => v26)
def c7_10 (C : Callee) : Cd V19 := fun v S κ => (V19.casesOn v fun v0 v1 v2 v3 v4 v5 v6 v7 v8 v9 v11 v15 v21 v26 v41 v53 v63 v82 v94 => 
  kFad 1 v1 S fun v95 S95 =>
  kLd none v95 S95 fun v96 S96 =>
  kIad 2 v96 v7 S96 fun v97 S97 =>
  kFad 0 v97 S97 fun v98 S98 =>
  kLd none v98 S98 fun v99 S99 =>
  kFad 1 v1 S99 fun v100 S100 =>
  kLd none v100 S100 fun v101 S101 =>
  kIad 2 v101 v6 S101 fun v102 S102 =>
  kFad 0 v102 S102 fun v103 S103 =>
  kLd none v103 S103 fun v104 S104 =>
  kBin .eql v99 v104 S104 fun v105 S105 =>
  κ .normal (V19.mk v0 v1 v2 v3 v4 v5 v6 v7 v8 v9 v11 v15 v21 v26 v105 v53 v63 v82 v94) S105)
def c7_11 : V19 → Value := fun v => (V19.casesOn v fun v0 v1 v2 v3 v4 v5 v6 v7 v8 v9 v11 v15 v21 v26 v41 v53 v63 v82 v94 => v41)
def c7_12 (C : Callee) : Cd V19 := fun v S κ => (V19.casesOn v fun v0 v1 v2 v3 v4 v5 v6 v7 v8 v9 v11 v15 v21 v26 v41 v53 v63 v82 v94 => 
  kBuild [.slice none 0 0, .slice none 0 0] [] S fun v95 S95 =>
  kFad 1 v1 S95 fun v96 S96 =>
  kLd none v96 S96 fun v97 S97 =>
  kIad 2 v97 v6 S97 fun v98 S98 =>
  kFad 0 v98 S98 fun v99 S99 =>
  kLd none v99 S99 fun v100 S100 =>
  kSt 2 v2 v95 S100 fun v101 S101 =>
  kLd none v99 S101 fun u _ => cond (veqB u v100)
   (kLd none v96 S101 fun u _ => cond (veqB u v97)
    (κ .normal (V19.mk v0 v1 v2 (.int .i64 8) v100 (.int .i64 0) v6 v7 v8 v9 v11 v15 v21 v26 v41 v53 v63 v82 v94) S101) none) none)
def c7_13 (C : Callee) : Cd V19 := fun v S κ => (V19.casesOn v fun v0 v1 v2 v3 v4 v5 v6 v7 v8 v9 v11 v15 v21 v26 v41 v53 v63 v82 v94 => 
  kBin .add v7 (.int .i64 1) S fun v95 S95 =>
  κ .normal (V19.mk v0 v1 v2 v3 v4 v5 v6 v95 v8 v9 v11 v15 v21 v26 v41 v53 v63 v82 v94) S95)
def c7_14 (C : Callee) (n : Nat) : Cd V19 := seqK (seqK (c7_8 C) (condK c7_9 (skipK) (exitK 2))) (seqK (blockK 3 (seqK (c7_10 C) (condK c7_11 (seqK (c7_12 C) (retK)) (skipK)))) (c7_13 C))
def c7_15 (C : Callee) : Cd V19 := fun v S κ => (V19.casesOn v fun v0 v1 v2 v3 v4 v5 v6 v7 v8 v9 v11 v15 v21 v26 v41 v53 v63 v82 v94 => 
  kBin .add v6 (.int .i64 1) S fun v95 S95 =>
  κ .normal (V19.mk v0 v1 v2 v3 v4 v5 v95 v7 v8 v9 v11 v15 v21 v26 v41 v53 v63 v82 v94) S95)
def c7_16 (C : Callee) (n : Nat) : Cd V19 := seqK (seqK (c7_5 C) (condK c7_6 (skipK) (exitK 0))) (seqK (blockK 1 (seqK (c7_7 C) (blockK 2 (loopK n (c7_14 C n))))) (c7_15 C))
def c7_17 (C : Callee) : Cd V19 := fun v S κ => (V19.casesOn v fun v0 v1 v2 v3 v4 v5 v6 v7 v8 v9 v11 v15 v21 v26 v41 v53 v63 v82 v94 => 
  κ .normal (V19.mk v0 v1 v2 v3 v4 v5 v6 v7 (.int .i64 0) v9 v11 v15 v21 v26 v41 v53 v63 v82 v94) S)
def c7_18 (C : Callee) : Cd V19 := fun v S κ => (V19.casesOn v fun v0 v1 v2 v3 v4 v5 v6 v7 v8 v9 v11 v15 v21 v26 v41 v53 v63 v82 v94 => 
  kFad 1 v1 S fun v95 S95 =>
  kLd none v95 S95 fun v96 S96 =>
  kLen false v96 S96 fun v97 S97 =>
  kBin .lss v8 v97 S97 fun v98 S98 =>
  κ .normal (V19.mk v0 v1 v2 v3 v4 v5 v6 v7 v8 v9 v11 v15 v21 v26 v41 v98 v63 v82 v94) S98)
def c7_19 : V19 → Value := fun v => (V19.casesOn v fun v0 v1 v2 v3 v4 v5 v6 v7 v8 v9 v11 v15 v21 v26 v41 v53 v63 v82 v94 => v53)
def c7_20 (C : Callee) : Cd V19 := fun v S κ => (V19.casesOn v fun v0 v1 v2 v3 v4 v5 v6 v7 v8 v9 v11 v15 v21 v26 v41 v53 v63 v82 v94 => 
  kFad 1 v1 S fun v95 S95 =>
  kLd none v95 S95 fun v96 S96 =>
  kIad 2 v96 v8 S96 fun v97 S97 =>
  kFad 0 v97 S97 fun v98 S98 =>
  kLd none v98 S98 fun v99 S99 =>
  kCall C 15 [v99] S99 fun v100 S100 =>
  kUn .not v100 S100 fun v101 S101 =>
  κ .normal (V19.mk v0 v1 v2 v3 v4 v5 v6 v7 v8 v9 v11 v15 v21 v26 v41 v53 v101 v82 v94) S101)
def c7_21 : V19 → Value := fun v => (V19.casesOn v fun v0 v1 v2 v3 v4 v5 v6 v7 v8 v9 v11 v15 v21 v26 v41 v53 v63 v82 v94 => v63)
def c7_22 (C : Callee) : Cd V19 := fun v S κ => (V19.casesOn v fun v0 v1 v2 v3 v4 v5 v6 v7 v8 v9 v11 v15 v21 v26 v41 v53 v63 v82 v94 => 
  kBuild [.slice none 0 0, .slice none 0 0] [] S fun v95 S95 =>
  kFad 1 v1 S95 fun v96 S96 =>
  kLd none v96 S96 fun v97 S97 =>
  kIad 2 v97 v8 S97 fun v98 S98 =>
  kFad 0 v98 S98 fun v99 S99 =>
  kLd none v99 S99 fun v100 S100 =>
  kSt 2 v2 v95 S100 fun v101 S101 =>
  kLd none v99 S101 fun u _ => cond (veqB u v100)
   (kLd none v96 S101 fun u _ => cond (veqB u v97)
    (κ .normal (V19.mk v0 v1 v2 (.int .i64 2) v100 (.int .i64 0) v6 v7 v8 v9 v11 v15 v21 v26 v41 v53 v63 v82 v94) S101) none) none)
def c7_23 (C : Callee) : Cd V19 := fun v S κ => (V19.casesOn v fun v0 v1 v2 v3 v4 v5 v6 v7 v8 v9 v11 v15 v21 v26 v41 v53 v63 v82 v94 => 
  kBin .add v8 (.int .i64 1) S fun v95 S95 =>
  κ .normal (V19.mk v0 v1 v2 v3 v4 v5 v6 v7 v95 v9 v11 v15 v21 v26 v41 v53 v63 v82 v94) S95)
def c7_24 (C : Callee) (n : Nat) : Cd V19 := seqK (seqK (c7_18 C) (condK c7_19 (skipK) (exitK 4))) (seqK (blockK 5 (seqK (c7_20 C) (condK c7_21 (seqK (c7_22 C) (retK)) (skipK)))) (c7_23 C))
def c7_25 (C : Callee) : Cd V19 := fun v S κ => (V19.casesOn v fun v0 v1 v2 v3 v4 v5 v6 v7 v8 v9 v11 v15 v21 v26 v41 v53 v63 v82 v94 => 
  kLd (some 2) v1 S fun v95 S95 =>
  kBuild [.string ⟨#[]⟩, .slice none 0 0, .slice none 0 0, .slice none 0 0, .slice none 0 0, .int .i64 0, .string ⟨#[]⟩, .int .i64 0] [(0, 2, v95)] S95 fun v96 S96 =>
  kBox 66 8 v96 S96 fun v97 S97 =>
  κ .normal (V19.mk v0 v1 v2 v3 v4 v5 v6 v7 v8 v97 v11 v15 v21 v26 v41 v53 v63 v82 v94) S97)
def c7_26 (C : Callee) : Cd V19 := fun v S κ => (V19.casesOn v fun v0 v1 v2 v3 v4 v5 v6 v7 v8 v9 v11 v15 v21 v26 v41 v53 v63 v82 v94 => 
  kFad 0 v1 S fun v95 S95 =>
  kLd none v95 S95 fun v96 S96 =>
  kCall C 16 [v9, v96] S96 fun v97 S97 =>
  kExt 0 v97 S97 fun v98 S98 =>
  kExt 1 v97 S98 fun v99 S99 =>
  κ .normal (V19.mk v0 v1 v2 v3 v4 v5 v6 v7 v8 v9 v99 v15 v21 v26 v41 v53 v63 v82 v94) S99)
def c7_27 (C : Callee) : Cd V19 := fun v S κ => (V19.casesOn v fun v0 v1 v2 v3 v4 v5 v6 v7 v8 v9 v11 v15 v21 v26 v41 v53 v63 v82 v94 => 
  kUn .not v11 S fun v95 S95 =>
  κ .normal (V19.mk v0 v1 v2 v3 v4 v5 v6 v7 v8 v9 v11 v15 v21 v26 v41 v53 v63 v95 v94) S95)
def c7_28 : V19 → Value := fun v => (V19.casesOn v fun v0 v1 v2 v3 v4 v5 v6 v7 v8 v9 v11 v15 v21 v26 v41 v53 v63 v82 v94 => v82)
def c7_29 (C : Callee) : Cd V19 := fun v S κ => (V19.casesOn v fun v0 v1 v2 v3 v4 v5 v6 v7 v8 v9 v11 v15 v21 v26 v41 v53 v63 v82 v94 => 
  kBuild [.slice none 0 0, .slice none 0 0] [] S fun v95 S95 =>
  kFad 0 v1 S95 fun v96 S96 =>
  kLd none v96 S96 fun v97 S97 =>
  kSt 2 v2 v95 S97 fun v98 S98 =>
  kLd none v96 S98 fun u _ => cond (veqB u v97)
   (κ .normal (V19.mk v0 v1 v2 (.int .i64 15) v97 (.int .i64 0) v6 v7 v8 v9 v11 v15 v21 v26 v41 v53 v63 v82 v94) S98) none)
def c7_30 (C : Callee) : Cd V19 := fun v S κ => (V19.casesOn v fun v0 v1 v2 v3 v4 v5 v6 v7 v8 v9 v11 v15 v21 v26 v41 v53 v63 v82 v94 => 
  kFad 0 v1 S fun v95 S95 =>
  kLd none v95 S95 fun v96 S96 =>
  kCall C 17 [v9, v96] S96 fun v97 S97 =>
  κ .normal (V19.mk v0 v1 v2 v3 v4 v5 v6 v7 v8 v9 v11 v15 v21 v26 v41 v53 v63 v82 v94) S97)
def c7_31 (C : Callee) : Cd V19 := fun v S κ => (V19.casesOn v fun v0 v1 v2 v3 v4 v5 v6 v7 v8 v9 v11 v15 v21 v26 v41 v53 v63 v82 v94 => 
  kNilc v9 S fun v95 S95 =>
  kFad 5 v95 S95 fun v96 S96 =>
  kLd none v96 S96 fun v97 S97 =>
  kBin .neq v97 (.int .i64 0) S97 fun v98 S98 =>
  κ .normal (V19.mk v0 v1 v2 v3 v4 v5 v6 v7 v8 v9 v11 v15 v21 v26 v41 v53 v63 v82 v98) S98)
def c7_32 : V19 → Value := fun v => (V19.casesOn v fun v0 v1 v2 v3 v4 v5 v6 v7 v8 v9 v11 v15 v21 v26 v41 v53 v63 v82 v94 => v94)
def c7_33 (C : Callee) : Cd V19 := fun v S κ => (V19.casesOn v fun v0 v1 v2 v3 v4 v5 v6 v7 v8 v9 v11 v15 v21 v26 v41 v53 v63 v82 v94 => 
  kBuild [.slice none 0 0, .slice none 0 0] [] S fun v95 S95 =>
  kNilc v9 S95 fun v96 S96 =>
  kFad 5 v96 S96 fun v97 S97 =>
  kLd none v97 S97 fun v98 S98 =>
  kNilc v9 S98 fun v99 S99 =>
  kFad 6 v99 S99 fun v100 S100 =>
  kLd none v100 S100 fun v101 S101 =>
  kNilc v9 S101 fun v102 S102 =>
  kFad 7 v102 S102 fun v103 S103 =>
  kLd none v103 S103 fun v104 S104 =>
  kSt 2 v2 v95 S104 fun v105 S105 =>
  kLd none v103 S105 fun u _ => cond (veqB u v104)
   (kLd none v100 S105 fun u _ => cond (veqB u v101)
    (kLd none v97 S105 fun u _ => cond (veqB u v98)
     (κ .normal (V19.mk v0 v1 v2 v98 v101 v104 v6 v7 v8 v9 v11 v15 v21 v26 v41 v53 v63 v82 v94) S105) none) none) none)
def c7_34 (C : Callee) : Cd V19 := fun v S κ => (V19.casesOn v fun v0 v1 v2 v3 v4 v5 v6 v7 v8 v9 v11 v15 v21 v26 v41 v53 v63 v82 v94 => 
  kNilc v9 S fun v95 S95 =>
  kFad 2 v95 S95 fun v96 S96 =>
  kLd (some 2) v96 S96 fun v97 S97 =>
  kSt 2 v2 v97 S97 fun v98 S98 =>
  κ .normal (V19.mk v0 v1 v2 (.int .i64 0) (.string ⟨#[]⟩) (.int .i64 0) v6 v7 v8 v9 v11 v15 v21 v26 v41 v53 v63 v82 v94) S98)
/-- assayer/assayerref9.Load -/
def c7 (C : Callee) (n : Nat) : Cd V19 := seqK (c7_0 C) (seqK (seqK (c7_1 C) (condK c7_2 (seqK (c7_3 C) (retK)) (skipK))) (seqK (seqK (c7_4 C) (blockK 0 (loopK n (c7_16 C n)))) (seqK (seqK (c7_17 C) (blockK 4 (loopK n (c7_24 C n)))) (seqK (c7_25 C) (seqK (c7_26 C) (seqK (seqK (c7_27 C) (condK c7_28 (seqK (c7_29 C) (retK)) (skipK))) (seqK (c7_30 C) (seqK (seqK (c7_31 C) (condK c7_32 (seqK (c7_33 C) (retK)) (skipK))) (seqK (c7_34 C) (retK))))))))))
def r7 (v : V19) (S : AW) : R := (V19.casesOn v fun v0 v1 v2 v3 v4 v5 v6 v7 v8 v9 v11 v15 v21 v26 v41 v53 v63 v82 v94 => kLd (some 2) v2 S fun r2 _ => some (.tuple #[r2, v3, v4, v5], S))
def g7 (C : Callee) (n : Nat) (args : List Value) (S : AW) : R := c7 C n (V19.mk (argV args 0) (argV args 1) (argV args 2) (argV args 3) (argV args 4) (argV args 5) (argV args 6) (argV args 7) (argV args 8) (argV args 9) (argV args 11) (argV args 15) (argV args 21) (argV args 26) (argV args 41) (argV args 53) (argV args 63) (argV args 82) (argV args 94)) S fun o v S => EX.casesOn o (r7 v S) (fun _ => none) (r7 v S)
/-! assayer/assayerlaw9.From -/
def c10_0 (C : Callee) : Cd V3 := fun v S κ => (V3.casesOn v fun v0 v1 v2 => 
  kBox 27 2 v0 S fun v3 S3 =>
  kNew 37 2 [.slice none 0 0, .slice none 0 0] S3 fun v4 S4 =>
  κ .normal (V3.mk v0 v3 v4) S4)
def c10_1 (C : Callee) : Cd V3 := fun v S κ => (V3.casesOn v fun v0 v1 v2 => 
  kFad 0 v1 S fun v3 S3 =>
  kLd none v3 S3 fun v4 S4 =>
  kFad 1 v1 S4 fun v5 S5 =>
  kLd none v5 S5 fun v6 S6 =>
  kBuild [.slice none 0 0, .slice none 0 0] [(0, 1, v4), (1, 1, v6)] S6 fun v7 S7 =>
  kSt 2 v2 v7 S7 fun v8 S8 =>
  κ .normal (V3.mk v0 v1 v2) S8)
/-- assayer/assayerlaw9.From -/
def c10 (C : Callee) (n : Nat) : Cd V3 := seqK (c10_0 C) (seqK (c10_1 C) (retK))
def r10 (v : V3) (S : AW) : R := (V3.casesOn v fun v0 v1 v2 => kLd (some 2) v2 S fun r2 _ => some (r2, S))
def g10 (C : Callee) (n : Nat) (args : List Value) (S : AW) : R := c10 C n (V3.mk (argV args 0) (argV args 1) (argV args 2)) S fun o v S => EX.casesOn o (r10 v S) (fun _ => none) (r10 v S)
/-! assayer/scope.Find -/
def c11_0 (C : Callee) : Cd V14 := fun v S κ => (V14.casesOn v fun v0 v1 v2 v3 v6 v7 v8 v9 v10 v11 v12 v13 v21 v41 => 
  kBox 37 2 v0 S fun v42 S42 =>
  kNew 51 12 [.int .i64 0, .string ⟨#[]⟩, .string ⟨#[]⟩, .int .i64 0, .int .i64 0, .int .u64 0, .string ⟨#[]⟩, .slice none 0 0, .slice none 0 0, .slice none 0 0, .string ⟨#[]⟩, .slice none 0 0] S42 fun v43 S43 =>
  κ .normal (V14.mk v0 v1 v2 v42 (.string ⟨#[]⟩) v43 (.string ⟨#[]⟩) (.int .i64 0) v10 v11 v12 v13 v21 v41) S43)
def c11_1 (C : Callee) : Cd V14 := fun v S κ => (V14.casesOn v fun v0 v1 v2 v3 v6 v7 v8 v9 v10 v11 v12 v13 v21 v41 => 
  kCall C 20 [v2, (.string ⟨#[46]⟩)] S fun v42 S42 =>
  κ .normal (V14.mk v0 v1 v2 v3 v6 v7 v8 v9 v42 v11 v12 v13 v21 v41) S42)
def c11_2 (C : Callee) : Cd V14 := fun v S κ => (V14.casesOn v fun v0 v1 v2 v3 v6 v7 v8 v9 v10 v11 v12 v13 v21 v41 => 
  kBuild [.string ⟨#[]⟩, .string ⟨#[]⟩] [(0, 1, v1), (1, 1, v2)] S fun v42 S42 =>
  kNew 76 2 [.string ⟨#[]⟩, .string ⟨#[]⟩] S42 fun v43 S43 =>
  kSt 2 v43 v42 S43 fun v44 S44 =>
  κ .normal (V14.mk v0 v1 v2 v3 v6 v7 v8 v9 v10 v43 v12 v13 v21 v41) S44)
def c11_3 (C : Callee) : Cd V14 := fun v S κ => (V14.casesOn v fun v0 v1 v2 v3 v6 v7 v8 v9 v10 v11 v12 v13 v21 v41 => 
  kLen false v10 S fun v42 S42 =>
  kBin .eql v42 (.int .i64 2) S42 fun v43 S43 =>
  κ .normal (V14.mk v0 v1 v2 v3 v6 v7 v8 v9 v10 v11 v12 v13 v43 v41) S43)
def c11_4 : V14 → Value := fun v => (V14.casesOn v fun v0 v1 v2 v3 v6 v7 v8 v9 v10 v11 v12 v13 v21 v41 => v21)
def c11_5 (C : Callee) : Cd V14 := fun v S κ => (V14.casesOn v fun v0 v1 v2 v3 v6 v7 v8 v9 v10 v11 v12 v13 v21 v41 => 
  kIad 1 v10 (.int .i64 0) S fun v42 S42 =>
  kLd none v42 S42 fun v43 S43 =>
  kIad 1 v10 (.int .i64 1) S43 fun v44 S44 =>
  kLd none v44 S44 fun v45 S45 =>
  kBuild [.string ⟨#[]⟩, .string ⟨#[]⟩] [(0, 1, v43), (1, 1, v45)] S45 fun v46 S46 =>
  kSt 2 v11 v46 S46 fun v47 S47 =>
  κ .normal (V14.mk v0 v1 v2 v3 v6 v7 v8 v9 v10 v11 v12 v13 v21 v41) S47)
def c11_6 (C : Callee) : Cd V14 := fun v S κ => (V14.casesOn v fun v0 v1 v2 v3 v6 v7 v8 v9 v10 v11 v12 v13 v21 v41 => 
  kLd (some 2) v3 S fun v42 S42 =>
  kLd (some 2) v11 S42 fun v43 S43 =>
  kCall C 21 [v42, v1, v43] S43 fun v44 S44 =>
  kExt 0 v44 S44 fun v45 S45 =>
  kExt 1 v44 S45 fun v46 S46 =>
  kNew 51 12 [.int .i64 0, .string ⟨#[]⟩, .string ⟨#[]⟩, .int .i64 0, .int .i64 0, .int .u64 0, .string ⟨#[]⟩, .slice none 0 0, .slice none 0 0, .slice none 0 0, .string ⟨#[]⟩, .slice none 0 0] S46 fun v47 S47 =>
  kSt 12 v47 v45 S47 fun v48 S48 =>
  κ .normal (V14.mk v0 v1 v2 v3 v6 v7 v8 v9 v10 v11 v47 v46 v21 v41) S48)
def c11_7 (C : Callee) : Cd V14 := fun v S κ => (V14.casesOn v fun v0 v1 v2 v3 v6 v7 v8 v9 v10 v11 v12 v13 v21 v41 => 
  bl v13 fun b => cond b
   (kLen false v10 S fun v42 S42 =>
   kBin .leq v42 (.int .i64 2) S42 fun v43 S43 =>
   κ .normal (V14.mk v0 v1 v2 v3 v6 v7 v8 v9 v10 v11 v12 v13 v21 v43) S43)
   (κ .normal (V14.mk v0 v1 v2 v3 v6 v7 v8 v9 v10 v11 v12 v13 v21 (.bool false)) S))
def c11_8 : V14 → Value := fun v => (V14.casesOn v fun v0 v1 v2 v3 v6 v7 v8 v9 v10 v11 v12 v13 v21 v41 => v41)
def c11_9 (C : Callee) : Cd V14 := fun v S κ => (V14.casesOn v fun v0 v1 v2 v3 v6 v7 v8 v9 v10 v11 v12 v13 v21 v41 => 
  kLd (some 2) v11 S fun v42 S42 =>
  kLd (some 12) v12 S42 fun v43 S43 =>
  kFad 0 v11 S43 fun v44 S44 =>
  kLd none v44 S44 fun v45 S45 =>
  kCall C 22 [v42] S45 fun v46 S46 =>
  kLd none v44 S46 fun u _ => cond (veqB u v45)
   (kLd (some 12) v12 S46 fun u _ => cond (veqB u v43)
    (kSt 12 v7 v43 S46 fun v47 S47 =>
    kLd none v44 S47 fun u _ => cond (veqB u v45)
     (κ .normal (V14.mk v0 v1 v2 v3 v46 v7 v45 (.int .i64 0) v10 v11 v12 v13 v21 v41) S47) none) none) none)
def c11_10 (C : Callee) : Cd V14 := fun v S κ => (V14.casesOn v fun v0 v1 v2 v3 v6 v7 v8 v9 v10 v11 v12 v13 v21 v41 => 
  kBuild [.int .i64 0, .string ⟨#[]⟩, .string ⟨#[]⟩, .int .i64 0, .int .i64 0, .int .u64 0, .string ⟨#[]⟩, .slice none 0 0, .slice none 0 0, .slice none 0 0, .string ⟨#[]⟩, .slice none 0 0] [] S fun v42 S42 =>
  kSt 12 v7 v42 S42 fun v43 S43 =>
  κ .normal (V14.mk v0 v1 v2 v3 (.string ⟨#[]⟩) v7 (.string ⟨#[]⟩) (.int .i64 7) v10 v11 v12 v13 v21 v41) S43)
/-- assayer/scope.Find -/
def c11 (C : Callee) (n : Nat) : Cd V14 := seqK (c11_0 C) (seqK (c11_1 C) (seqK (c11_2 C) (seqK (seqK (c11_3 C) (condK c11_4 (c11_5 C) (skipK))) (seqK (seqK (c11_6 C) (seqK (c11_7 C) (condK c11_8 (seqK (c11_9 C) (retK)) (skipK)))) (seqK (c11_10 C) (retK))))))
def r11 (v : V14) (S : AW) : R := (V14.casesOn v fun v0 v1 v2 v3 v6 v7 v8 v9 v10 v11 v12 v13 v21 v41 => kLd (some 12) v7 S fun r7 _ => some (.tuple #[v6, r7, v8, v9], S))
def g11 (C : Callee) (n : Nat) (args : List Value) (S : AW) : R := c11 C n (V14.mk (argV args 0) (argV args 1) (argV args 2) (argV args 3) (argV args 6) (argV args 7) (argV args 8) (argV args 9) (argV args 10) (argV args 11) (argV args 12) (argV args 13) (argV args 21) (argV args 41)) S fun o v S => EX.casesOn o (r11 v S) (fun _ => none) (r11 v S)
/-! assayer/scope.Const -/
def c13_0 (C : Callee) : Cd V21 := fun v S κ => (V21.casesOn v fun v0 v1 v2 v3 v6 v7 v8 v9 v10 v11 v12 v13 v14 v15 v16 v17 v33 v40 v42 v49 v73 => 
  kBox 37 2 v0 S fun v74 S74 =>
  kNew 51 12 [.int .i64 0, .string ⟨#[]⟩, .string ⟨#[]⟩, .int .i64 0, .int .i64 0, .int .u64 0, .string ⟨#[]⟩, .slice none 0 0, .slice none 0 0, .slice none 0 0, .string ⟨#[]⟩, .slice none 0 0] S74 fun v75 S75 =>
  κ .normal (V21.mk v0 v1 v2 v74 (.string ⟨#[]⟩) v75 (.string ⟨#[]⟩) (.string ⟨#[]⟩) (.int .i64 0) v11 v12 v13 v14 v15 v16 v17 v33 v40 v42 v49 v73) S75)
def c13_1 (C : Callee) : Cd V21 := fun v S κ => (V21.casesOn v fun v0 v1 v2 v3 v6 v7 v8 v9 v10 v11 v12 v13 v14 v15 v16 v17 v33 v40 v42 v49 v73 => 
  kLd (some 2) v3 S fun v74 S74 =>
  kCall C 11 [v74, v1, v2] S74 fun v75 S75 =>
  kExt 0 v75 S75 fun v76 S76 =>
  kExt 1 v75 S76 fun v77 S77 =>
  kExt 2 v75 S77 fun v78 S78 =>
  kExt 3 v75 S78 fun v79 S79 =>
  kNew 51 12 [.int .i64 0, .string ⟨#[]⟩, .string ⟨#[]⟩, .int .i64 0, .int .i64 0, .int .u64 0, .string ⟨#[]⟩, .slice none 0 0, .slice none 0 0, .slice none 0 0, .string ⟨#[]⟩, .slice none 0 0] S79 fun v80 S80 =>
  kSt 12 v80 v77 S80 fun v81 S81 =>
  κ .normal (V21.mk v0 v1 v2 v3 v6 v7 v8 v9 v10 v76 v80 v78 v79 v15 v16 v17 v33 v40 v42 v49 v73) S81)
def c13_2 (C : Callee) : Cd V21 := fun v S κ => (V21.casesOn v fun v0 v1 v2 v3 v6 v7 v8 v9 v10 v11 v12 v13 v14 v15 v16 v17 v33 v40 v42 v49 v73 => 
  kBin .eql v14 (.int .i64 0) S fun v74 S74 =>
  bl v74 fun b => cond b
   (kFad 0 v12 S74 fun v75 S75 =>
   kLd none v75 S75 fun v76 S76 =>
   kBin .eql v76 (.int .i64 3) S76 fun v77 S77 =>
   κ .normal (V21.mk v0 v1 v2 v3 v6 v7 v8 v9 v10 v11 v12 v13 v14 v15 v16 v17 v77 v40 v42 v49 v73) S77)
   (κ .normal (V21.mk v0 v1 v2 v3 v6 v7 v8 v9 v10 v11 v12 v13 v14 v15 v16 v17 (.bool false) v40 v42 v49 v73) S74))
def c13_3 : V21 → Value := fun v => (V21.casesOn v fun v0 v1 v2 v3 v6 v7 v8 v9 v10 v11 v12 v13 v14 v15 v16 v17 v33 v40 v42 v49 v73 => v33)
def c13_4 (C : Callee) : Cd V21 := fun v S κ => (V21.casesOn v fun v0 v1 v2 v3 v6 v7 v8 v9 v10 v11 v12 v13 v14 v15 v16 v17 v33 v40 v42 v49 v73 => 
  kLd (some 12) v12 S fun v74 S74 =>
  kSt 12 v7 v74 S74 fun v75 S75 =>
  κ .normal (V21.mk v0 v1 v2 v3 v11 v7 (.string ⟨#[]⟩) v13 (.int .i64 0) v11 v12 v13 v14 v15 v16 v17 v33 v40 v42 v49 v73) S75)
def c13_5 (C : Callee) : Cd V21 := fun v S κ => (V21.casesOn v fun v0 v1 v2 v3 v6 v7 v8 v9 v10 v11 v12 v13 v14 v15 v16 v17 v33 v40 v42 v49 v73 => 
  kCall C 20 [v2, (.string ⟨#[46]⟩)] S fun v74 S74 =>
  κ .normal (V21.mk v0 v1 v2 v3 v6 v7 v8 v9 v10 v11 v12 v13 v14 v74 v16 v17 v33 v40 v42 v49 v73) S74)
def c13_6 (C : Callee) : Cd V21 := fun v S κ => (V21.casesOn v fun v0 v1 v2 v3 v6 v7 v8 v9 v10 v11 v12 v13 v14 v15 v16 v17 v33 v40 v42 v49 v73 => 
  kNew 76 2 [.string ⟨#[]⟩, .string ⟨#[]⟩] S fun v74 S74 =>
  κ .normal (V21.mk v0 v1 v2 v3 v6 v7 v8 v9 v10 v11 v12 v13 v14 v15 v74 v17 v33 v40 v42 v49 v73) S74)
def c13_7 (C : Callee) : Cd V21 := fun v S κ => (V21.casesOn v fun v0 v1 v2 v3 v6 v7 v8 v9 v10 v11 v12 v13 v14 v15 v16 v17 v33 v40 v42 v49 v73 => 
  kLen false v15 S fun v74 S74 =>
  κ .normal (V21.mk v0 v1 v2 v3 v6 v7 v8 v9 v10 v11 v12 v13 v14 v15 v16 v17 v33 v74 v42 v49 v73) S74)
def c13_8 (C : Callee) : Cd V21 := fun v S κ => (V21.casesOn v fun v0 v1 v2 v3 v6 v7 v8 v9 v10 v11 v12 v13 v14 v15 v16 v17 v33 v40 v42 v49 v73 => 
  kBin .eql v40 (.int .i64 2) S fun v74 S74 =>
  κ .normal (V21.mk v0 v1 v2 v3 v6 v7 v8 v9 v10 v11 v12 v13 v14 v15 v16 v17 v33 v40 v74 v49 v73) S74)
def c13_9 : V21 → Value := fun v => (V21.casesOn v fun v0 v1 v2 v3 v6 v7 v8 v9 v10 v11 v12 v13 v14 v15 v16 v17 v33 v40 v42 v49 v73 => v42)
def c13_10 (C : Callee) : Cd V21 := fun v S κ => (V21.casesOn v fun v0 v1 v2 v3 v6 v7 v8 v9 v10 v11 v12 v13 v14 v15 v16 v17 v33 v40 v42 v49 v73 => 
  kIad 1 v15 (.int .i64 0) S fun v74 S74 =>
  kLd none v74 S74 fun v75 S75 =>
  kBuild [.string ⟨#[]⟩, .string ⟨#[]⟩] [(0, 1, v1), (1, 1, v75)] S75 fun v76 S76 =>
  kSt 2 v16 v76 S76 fun v77 S77 =>
  κ .normal (V21.mk v0 v1 v2 v3 v6 v7 v8 v9 v10 v11 v12 v13 v14 v15 v16 v17 v33 v40 v42 v49 v73) S77)
def c13_11 (C : Callee) : Cd V21 := fun v S κ => (V21.casesOn v fun v0 v1 v2 v3 v6 v7 v8 v9 v10 v11 v12 v13 v14 v15 v16 v17 v33 v40 v42 v49 v73 => 
  kBin .eql v40 (.int .i64 3) S fun v74 S74 =>
  κ .normal (V21.mk v0 v1 v2 v3 v6 v7 v8 v9 v10 v11 v12 v13 v14 v15 v16 v17 v33 v40 v42 v74 v73) S74)
def c13_12 : V21 → Value := fun v => (V21.casesOn v fun v0 v1 v2 v3 v6 v7 v8 v9 v10 v11 v12 v13 v14 v15 v16 v17 v33 v40 v42 v49 v73 => v49)
def c13_13 (C : Callee) : Cd V21 := fun v S κ => (V21.casesOn v fun v0 v1 v2 v3 v6 v7 v8 v9 v10 v11 v12 v13 v14 v15 v16 v17 v33 v40 v42 v49 v73 => 
  kIad 1 v15 (.int .i64 0) S fun v74 S74 =>
  kLd none v74 S74 fun v75 S75 =>
  kIad 1 v15 (.int .i64 1) S75 fun v76 S76 =>
  kLd none v76 S76 fun v77 S77 =>
  kBuild [.string ⟨#[]⟩, .string ⟨#[]⟩] [(0, 1, v75), (1, 1, v77)] S77 fun v78 S78 =>
  kSt 2 v16 v78 S78 fun v79 S79 =>
  κ .normal (V21.mk v0 v1 v2 v3 v6 v7 v8 v9 v10 v11 v12 v13 v14 v15 v16 v17 v33 v40 v42 v49 v73) S79)
def c13_14 (C : Callee) : Cd V21 := fun v S κ => (V21.casesOn v fun v0 v1 v2 v3 v6 v7 v8 v9 v10 v11 v12 v13 v14 v15 v16 v17 v33 v40 v42 v49 v73 => 
  kBuild [.int .i64 0, .string ⟨#[]⟩, .string ⟨#[]⟩, .int .i64 0, .int .i64 0, .int .u64 0, .string ⟨#[]⟩, .slice none 0 0, .slice none 0 0, .slice none 0 0, .string ⟨#[]⟩, .slice none 0 0] [] S fun v74 S74 =>
  kSt 12 v7 v74 S74 fun v75 S75 =>
  κ .normal (V21.mk v0 v1 v2 v3 (.string ⟨#[]⟩) v7 (.string ⟨#[]⟩) (.string ⟨#[]⟩) (.int .i64 7) v11 v12 v13 v14 v15 v16 v17 v33 v40 v42 v49 v73) S75)
def c13_15 (C : Callee) : Cd V21 := fun v S κ => (V21.casesOn v fun v0 v1 v2 v3 v6 v7 v8 v9 v10 v11 v12 v13 v14 v15 v16 v17 v33 v40 v42 v49 v73 => 
  kLen false v15 S fun v74 S74 =>
  kBin .sub v74 (.int .i64 1) S74 fun v75 S75 =>
  kIad 1 v15 v75 S75 fun v76 S76 =>
  kLd none v76 S76 fun v77 S77 =>
  κ .normal (V21.mk v0 v1 v2 v3 v6 v7 v77 v9 v10 v11 v12 v13 v14 v15 v16 v17 v33 v40 v42 v49 v73) S77)
def c13_16 (C : Callee) : Cd V21 := fun v S κ => (V21.casesOn v fun v0 v1 v2 v3 v6 v7 v8 v9 v10 v11 v12 v13 v14 v15 v16 v17 v33 v40 v42 v49 v73 => 
  kLd (some 2) v3 S fun v74 S74 =>
  kLd (some 2) v16 S74 fun v75 S75 =>
  kCall C 25 [v74, v1, v75, v8] S75 fun v76 S76 =>
  kExt 0 v76 S76 fun v77 S77 =>
  kExt 1 v76 S77 fun v78 S78 =>
  kSt 12 v7 v77 S78 fun v79 S79 =>
  κ .normal (V21.mk v0 v1 v2 v3 v6 v7 v8 v9 v10 v11 v12 v13 v14 v15 v16 v78 v33 v40 v42 v49 v73) S79)
def c13_17 (C : Callee) : Cd V21 := fun v S κ => (V21.casesOn v fun v0 v1 v2 v3 v6 v7 v8 v9 v10 v11 v12 v13 v14 v15 v16 v17 v33 v40 v42 v49 v73 => 
  kUn .not v17 S fun v74 S74 =>
  κ .normal (V21.mk v0 v1 v2 v3 v6 v7 v8 v9 v10 v11 v12 v13 v14 v15 v16 v17 v33 v40 v42 v49 v74) S74)
def c13_18 : V21 → Value := fun v => (V21.casesOn v fun v0 v1 v2 v3 v6 v7 v8 v9 v10 v11 v12 v13 v14 v15 v16 v17 v33 v40 v42 v49 v73 => v73)
def c13_19 (C : Callee) : Cd V21 := fun v S κ => (V21.casesOn v fun v0 v1 v2 v3 v6 v7 v8 v9 v10 v11 v12 v13 v14 v15 v16 v17 v33 v40 v42 v49 v73 => 
  kBuild [.int .i64 0, .string ⟨#[]⟩, .string ⟨#[]⟩, .int .i64 0, .int .i64 0, .int .u64 0, .string ⟨#[]⟩, .slice none 0 0, .slice none 0 0, .slice none 0 0, .string ⟨#[]⟩, .slice none 0 0] [] S fun v74 S74 =>
  kSt 12 v7 v74 S74 fun v75 S75 =>
  κ .normal (V21.mk v0 v1 v2 v3 (.string ⟨#[]⟩) v7 (.string ⟨#[]⟩) (.string ⟨#[]⟩) (.int .i64 7) v11 v12 v13 v14 v15 v16 v17 v33 v40 v42 v49 v73) S75)
def c13_20 (C : Callee) : Cd V21 := fun v S κ => (V21.casesOn v fun v0 v1 v2 v3 v6 v7 v8 v9 v10 v11 v12 v13 v14 v15 v16 v17 v33 v40 v42 v49 v73 => 
  kLd (some 2) v16 S fun v74 S74 =>
  kLd (some 12) v7 S74 fun v75 S75 =>
  kFad 0 v16 S75 fun v76 S76 =>
  kLd none v76 S76 fun v77 S77 =>
  kCall C 22 [v74] S77 fun v78 S78 =>
  kLd none v76 S78 fun u _ => cond (veqB u v77)
   (kLd (some 12) v7 S78 fun u _ => cond (veqB u v75)
    (kSt 12 v7 v75 S78 fun v79 S79 =>
    kLd none v76 S79 fun u _ => cond (veqB u v77)
     (κ .normal (V21.mk v0 v1 v2 v3 v78 v7 v8 v77 (.int .i64 0) v11 v12 v13 v14 v15 v16 v17 v33 v40 v42 v49 v73) S79) none) none) none)
/-- assayer/scope.Const -/
def c13 (C : Callee) (n : Nat) : Cd V21 := seqK (c13_0 C) (seqK (seqK (c13_1 C) (seqK (c13_2 C) (condK c13_3 (seqK (c13_4 C) (retK)) (skipK)))) (seqK (c13_5 C) (seqK (c13_6 C) (seqK (seqK (c13_7 C) (blockK 0 (seqK (c13_8 C) (condK c13_9 (c13_10 C) (seqK (c13_11 C) (condK c13_12 (c13_13 C) (seqK (c13_14 C) (retK)))))))) (seqK (c13_15 C) (seqK (c13_16 C) (seqK (seqK (c13_17 C) (condK c13_18 (seqK (c13_19 C) (retK)) (skipK))) (seqK (c13_20 C) (retK)))))))))
def r13 (v : V21) (S : AW) : R := (V21.casesOn v fun v0 v1 v2 v3 v6 v7 v8 v9 v10 v11 v12 v13 v14 v15 v16 v17 v33 v40 v42 v49 v73 => kLd (some 12) v7 S fun r7 _ => some (.tuple #[v6, r7, v8, v9, v10], S))
def g13 (C : Callee) (n : Nat) (args : List Value) (S : AW) : R := c13 C n (V21.mk (argV args 0) (argV args 1) (argV args 2) (argV args 3) (argV args 6) (argV args 7) (argV args 8) (argV args 9) (argV args 10) (argV args 11) (argV args 12) (argV args 13) (argV args 14) (argV args 15) (argV args 16) (argV args 17) (argV args 33) (argV args 40) (argV args 42) (argV args 49) (argV args 73)) S fun o v S => EX.casesOn o (r13 v S) (fun _ => none) (r13 v S)
/-! assayer/scope.Twice -/
def c14_0 (C : Callee) : Cd V19 := fun v S κ => (V19.casesOn v fun v0 v1 v2 v3 v4 v5 v6 v7 v9 v10 v13 v14 v15 v16 v21 v22 v23 v24 v42 => 
  kBox 37 2 v0 S fun v43 S43 =>
  κ .normal (V19.mk v0 v43 (.string ⟨#[]⟩) (.string ⟨#[]⟩) (.bool false) v5 v6 v7 v9 v10 v13 v14 v15 v16 v21 v22 v23 v24 v42) S43)
def c14_1 (C : Callee) : Cd V19 := fun v S κ => (V19.casesOn v fun v0 v1 v2 v3 v4 v5 v6 v7 v9 v10 v13 v14 v15 v16 v21 v22 v23 v24 v42 => 
  kMkm none S fun v43 S43 =>
  κ .normal (V19.mk v0 v1 v2 v3 v4 v43 v6 v7 v9 v10 v13 v14 v15 v16 v21 v22 v23 v24 v42) S43)
def c14_2 (C : Callee) : Cd V19 := fun v S κ => (V19.casesOn v fun v0 v1 v2 v3 v4 v5 v6 v7 v9 v10 v13 v14 v15 v16 v21 v22 v23 v24 v42 => 
  kFad 1 v1 S fun v43 S43 =>
  kLd none v43 S43 fun v44 S44 =>
  kLen false v44 S44 fun v45 S45 =>
  κ .normal (V19.mk v0 v1 v2 v3 v4 v5 v6 v7 v9 v10 v44 v45 (.int .i64 0) v16 v21 v22 v23 v24 v42) S45)
def c14_3 (C : Callee) : Cd V19 := fun v S κ => (V19.casesOn v fun v0 v1 v2 v3 v4 v5 v6 v7 v9 v10 v13 v14 v15 v16 v21 v22 v23 v24 v42 => 
  kBin .lss v15 v14 S fun v43 S43 =>
  κ .normal (V19.mk v0 v1 v2 v3 v4 v5 v6 v7 v9 v10 v13 v14 v15 v43 v21 v22 v23 v24 v42) S43)
def c14_4 : V19 → Value := fun v => (V19.casesOn v fun v0 v1 v2 v3 v4 v5 v6 v7 v9 v10 v13 v14 v15 v16 v21 v22 v23 v24 v42 => v16)
def c14_5 (C : Callee) : Cd V19 := fun v S κ => (V19.casesOn v fun v0 v1 v2 v3 v4 v5 v6 v7 v9 v10 v13 v14 v15 v16 v21 v22 v23 v24 v42 => 
  kIad 3 v13 v15 S fun v43 S43 =>
  kLd (some 3) v43 S43 fun v44 S44 =>
  kNew 42 3 [.slice none 0 0, .slice none 0 0, .slice none 0 0] S44 fun v45 S45 =>
  kSt 3 v45 v44 S45 fun v46 S46 =>
  κ .normal (V19.mk v0 v1 v2 v3 v4 v5 v15 v45 v9 v10 v13 v14 v15 v16 v21 v22 v23 v24 v42) S46)
def c14_6 (C : Callee) : Cd V19 := fun v S κ => (V19.casesOn v fun v0 v1 v2 v3 v4 v5 v6 v7 v9 v10 v13 v14 v15 v16 v21 v22 v23 v24 v42 => 
  kFad 2 v7 S fun v43 S43 =>
  kLd none v43 S43 fun v44 S44 =>
  kLen false v44 S44 fun v45 S45 =>
  κ .normal (V19.mk v0 v1 v2 v3 v4 v5 v6 v7 v9 v10 v13 v14 v15 v16 v44 v45 (.int .i64 0) v24 v42) S45)
def c14_7 (C : Callee) : Cd V19 := fun v S κ => (V19.casesOn v fun v0 v1 v2 v3 v4 v5 v6 v7 v9 v10 v13 v14 v15 v16 v21 v22 v23 v24 v42 => 
  kBin .lss v23 v22 S fun v43 S43 =>
  κ .normal (V19.mk v0 v1 v2 v3 v4 v5 v6 v7 v9 v10 v13 v14 v15 v16 v21 v22 v23 v43 v42) S43)
def c14_8 : V19 → Value := fun v => (V19.casesOn v fun v0 v1 v2 v3 v4 v5 v6 v7 v9 v10 v13 v14 v15 v16 v21 v22 v23 v24 v42 => v24)
def c14_9 (C : Callee) : Cd V19 := fun v S κ => (V19.casesOn v fun v0 v1 v2 v3 v4 v5 v6 v7 v9 v10 v13 v14 v15 v16 v21 v22 v23 v24 v42 => 
  kIad 12 v21 v23 S fun v43 S43 =>
  kLd (some 12) v43 S43 fun v44 S44 =>
  kNew 51 12 [.int .i64 0, .string ⟨#[]⟩, .string ⟨#[]⟩, .int .i64 0, .int .i64 0, .int .u64 0, .string ⟨#[]⟩, .slice none 0 0, .slice none 0 0, .slice none 0 0, .string ⟨#[]⟩, .slice none 0 0] S44 fun v45 S45 =>
  kSt 12 v45 v44 S45 fun v46 S46 =>
  κ .normal (V19.mk v0 v1 v2 v3 v4 v5 v6 v7 v45 v10 v13 v14 v15 v16 v21 v22 v23 v24 v42) S46)
def c14_10 (C : Callee) : Cd V19 := fun v S κ => (V19.casesOn v fun v0 v1 v2 v3 v4 v5 v6 v7 v9 v10 v13 v14 v15 v16 v21 v22 v23 v24 v42 => 
  kFad 0 v1 S fun v43 S43 =>
  kLd none v43 S43 fun v44 S44 =>
  kFad 0 v1 S44 fun v45 S45 =>
  kLd none v45 S45 fun v46 S46 =>
  kLen false v46 S46 fun v47 S47 =>
  kBin .sub v47 (.int .i64 1) S47 fun v48 S48 =>
  kO (mmV false [v6, v48]) S48 fun v49 S49 =>
  kIad 1 v44 v49 S49 fun v50 S50 =>
  kLd none v50 S50 fun v51 S51 =>
  kFad 1 v9 S51 fun v52 S52 =>
  kLd none v52 S52 fun v53 S53 =>
  kBuild [.string ⟨#[]⟩, .string ⟨#[]⟩] [(0, 1, v51), (1, 1, v53)] S53 fun v54 S54 =>
  kNew 76 2 [.string ⟨#[]⟩, .string ⟨#[]⟩] S54 fun v55 S55 =>
  kLd none v52 S55 fun u _ => cond (veqB u v53)
   (kLd none v50 S55 fun u _ => cond (veqB u v51)
    (kLd none v45 S55 fun u _ => cond (veqB u v46)
     (kLd none v43 S55 fun u _ => cond (veqB u v44)
      (kSt 2 v55 v54 S55 fun v56 S56 =>
      κ .normal (V19.mk v0 v1 v2 v3 v4 v5 v6 v7 v9 v55 v13 v14 v15 v16 v21 v22 v23 v24 v42) S56) none) none) none) none)
def c14_11 (C : Callee) : Cd V19 := fun v S κ => (V19.casesOn v fun v0 v1 v2 v3 v4 v5 v6 v7 v9 v10 v13 v14 v15 v16 v21 v22 v23 v24 v42 => 
  kLd (some 2) v10 S fun v43 S43 =>
  kMlk (.agg [.str, .str]) (.bool false) false v5 v43 S43 fun v44 S44 =>
  κ .normal (V19.mk v0 v1 v2 v3 v4 v5 v6 v7 v9 v10 v13 v14 v15 v16 v21 v22 v23 v24 v44) S44)
def c14_12 : V19 → Value := fun v => (V19.casesOn v fun v0 v1 v2 v3 v4 v5 v6 v7 v9 v10 v13 v14 v15 v16 v21 v22 v23 v24 v42 => v42)
def c14_13 (C : Callee) : Cd V19 := fun v S κ => (V19.casesOn v fun v0 v1 v2 v3 v4 v5 v6 v7 v9 v10 v13 v14 v15 v16 v21 v22 v23 v24 v42 => 
  kFad 0 v10 S fun v43 S43 =>
  kLd none v43 S43 fun v44 S44 =>
  kFad 1 v10 S44 fun v45 S45 =>
  kLd none v45 S45 fun v46 S46 =>
  κ .normal (V19.mk v0 v1 v44 v46 (.bool true) v5 v6 v7 v9 v10 v13 v14 v15 v16 v21 v22 v23 v24 v42) S46)
def c14_14 (C : Callee) : Cd V19 := fun v S κ => (V19.casesOn v fun v0 v1 v2 v3 v4 v5 v6 v7 v9 v10 v13 v14 v15 v16 v21 v22 v23 v24 v42 => 
  kLd (some 2) v10 S fun v43 S43 =>
  kMup (.agg [.str, .str]) v5 v43 (.bool true) S43 fun v44 S44 =>
  κ .normal (V19.mk v0 v1 v2 v3 v4 v5 v6 v7 v9 v10 v13 v14 v15 v16 v21 v22 v23 v24 v42) S44)
def c14_15 (C : Callee) : Cd V19 := fun v S κ => (V19.casesOn v fun v0 v1 v2 v3 v4 v5 v6 v7 v9 v10 v13 v14 v15 v16 v21 v22 v23 v24 v42 => 
  kBin .add v23 (.int .i64 1) S fun v43 S43 =>
  κ .normal (V19.mk v0 v1 v2 v3 v4 v5 v6 v7 v9 v10 v13 v14 v15 v16 v21 v22 v43 v24 v42) S43)
def c14_16 (C : Callee) (n : Nat) : Cd V19 := seqK (c14_7 C) (seqK (condK c14_8 (skipK) (exitK 2)) (seqK (blockK 3 (seqK (c14_9 C) (seqK (c14_10 C) (seqK (seqK (c14_11 C) (condK c14_12 (seqK (c14_13 C) (retK)) (skipK))) (c14_14 C))))) (c14_15 C)))
def c14_17 (C : Callee) : Cd V19 := fun v S κ => (V19.casesOn v fun v0 v1 v2 v3 v4 v5 v6 v7 v9 v10 v13 v14 v15 v16 v21 v22 v23 v24 v42 => 
  kBin .add v15 (.int .i64 1) S fun v43 S43 =>
  κ .normal (V19.mk v0 v1 v2 v3 v4 v5 v6 v7 v9 v10 v13 v14 v43 v16 v21 v22 v23 v24 v42) S43)
def c14_18 (C : Callee) (n : Nat) : Cd V19 := seqK (c14_3 C) (seqK (condK c14_4 (skipK) (exitK 0)) (seqK (blockK 1 (seqK (c14_5 C) (seqK (c14_6 C) (blockK 2 (loopK n (c14_16 C n)))))) (c14_17 C)))
def c14_19 (C : Callee) : Cd V19 := fun v S κ => (V19.casesOn v fun v0 v1 v2 v3 v4 v5 v6 v7 v9 v10 v13 v14 v15 v16 v21 v22 v23 v24 v42 => 
  κ .normal (V19.mk v0 v1 (.string ⟨#[]⟩) (.string ⟨#[]⟩) (.bool false) v5 v6 v7 v9 v10 v13 v14 v15 v16 v21 v22 v23 v24 v42) S)
/-- assayer/scope.Twice -/
def c14 (C : Callee) (n : Nat) : Cd V19 := seqK (c14_0 C) (seqK (c14_1 C) (seqK (seqK (c14_2 C) (blockK 0 (loopK n (c14_18 C n)))) (seqK (c14_19 C) (retK))))
def r14 (v : V19) (S : AW) : R := (V19.casesOn v fun v0 v1 v2 v3 v4 v5 v6 v7 v9 v10 v13 v14 v15 v16 v21 v22 v23 v24 v42 => some (.tuple #[v2, v3, v4], S))
def g14 (C : Callee) (n : Nat) (args : List Value) (S : AW) : R := c14 C n (V19.mk (argV args 0) (argV args 1) (argV args 2) (argV args 3) (argV args 4) (argV args 5) (argV args 6) (argV args 7) (argV args 9) (argV args 10) (argV args 13) (argV args 14) (argV args 15) (argV args 16) (argV args 21) (argV args 22) (argV args 23) (argV args 24) (argV args 42)) S fun o v S => EX.casesOn o (r14 v S) (fun _ => none) (r14 v S)
/-! assayer/assayerref5.Plain -/
def c15_0 (C : Callee) : Cd V6 := fun v S κ => (V6.casesOn v fun v0 v2 v3 v20 v24 v38 => 
  κ .normal (V6.mk v0 (.bool false) v3 v20 v24 v38) S)
def c15_1 (C : Callee) : Cd V6 := fun v S κ => (V6.casesOn v fun v0 v2 v3 v20 v24 v38 => 
  kBin .eql v0 (.string ⟨#[]⟩) S fun v39 S39 =>
  bl v39 fun b => cond b
   (κ .normal (V6.mk v0 v2 v3 (.bool true) v24 v38) S39)
   (kLen true v0 S39 fun v40 S40 =>
   kBin .gtr v40 (.int .i64 40) S40 fun v41 S41 =>
   bl v41 fun b => cond b
    (κ .normal (V6.mk v0 v2 v3 (.bool true) v24 v38) S41)
    (kIdxS v0 (.int .i64 0) S41 fun v42 S42 =>
    kCall C 26 [v42] S42 fun v43 S43 =>
    kUn .not v43 S43 fun v44 S44 =>
    bl v44 fun b => cond b
     (κ .normal (V6.mk v0 v2 v3 (.bool true) v24 v38) S44)
     (kCall C 27 [v0] S44 fun v45 S45 =>
     κ .normal (V6.mk v0 v2 v3 v45 v24 v38) S45))))
def c15_2 : V6 → Value := fun v => (V6.casesOn v fun v0 v2 v3 v20 v24 v38 => v20)
def c15_3 (C : Callee) : Cd V6 := fun v S κ => (V6.casesOn v fun v0 v2 v3 v20 v24 v38 => 
  κ .normal (V6.mk v0 (.bool false) v3 v20 v24 v38) S)
def c15_4 (C : Callee) : Cd V6 := fun v S κ => (V6.casesOn v fun v0 v2 v3 v20 v24 v38 => 
  κ .normal (V6.mk v0 v2 (.int .i64 0) v20 v24 v38) S)
def c15_5 (C : Callee) : Cd V6 := fun v S κ => (V6.casesOn v fun v0 v2 v3 v20 v24 v38 => 
  kLen true v0 S fun v39 S39 =>
  kBin .lss v3 v39 S39 fun v40 S40 =>
  κ .normal (V6.mk v0 v2 v3 v20 v40 v38) S40)
def c15_6 : V6 → Value := fun v => (V6.casesOn v fun v0 v2 v3 v20 v24 v38 => v24)
def c15_7 (C : Callee) : Cd V6 := fun v S κ => (V6.casesOn v fun v0 v2 v3 v20 v24 v38 => 
  kIdxS v0 v3 S fun v39 S39 =>
  kCall C 26 [v39] S39 fun v40 S40 =>
  kUn .not v40 S40 fun v41 S41 =>
  bl v41 fun b => cond b
   (kIdxS v0 v3 S41 fun v42 S42 =>
   kCall C 28 [v42] S42 fun v43 S43 =>
   kUn .not v43 S43 fun v44 S44 =>
   κ .normal (V6.mk v0 v2 v3 v20 v24 v44) S44)
   (κ .normal (V6.mk v0 v2 v3 v20 v24 (.bool false)) S41))
def c15_8 : V6 → Value := fun v => (V6.casesOn v fun v0 v2 v3 v20 v24 v38 => v38)
def c15_9 (C : Callee) : Cd V6 := fun v S κ => (V6.casesOn v fun v0 v2 v3 v20 v24 v38 => 
  κ .normal (V6.mk v0 (.bool false) v3 v20 v24 v38) S)
def c15_10 (C : Callee) : Cd V6 := fun v S κ => (V6.casesOn v fun v0 v2 v3 v20 v24 v38 => 
  kBin .add v3 (.int .i64 1) S fun v39 S39 =>
  κ .normal (V6.mk v0 v2 v39 v20 v24 v38) S39)
def c15_11 (C : Callee) (n : Nat) : Cd V6 := seqK (seqK (c15_5 C) (condK c15_6 (skipK) (exitK 0))) (seqK (blockK 1 (seqK (c15_7 C) (condK c15_8 (seqK (c15_9 C) (retK)) (skipK)))) (c15_10 C))
def c15_12 (C : Callee) : Cd V6 := fun v S κ => (V6.casesOn v fun v0 v2 v3 v20 v24 v38 => 
  κ .normal (V6.mk v0 (.bool true) v3 v20 v24 v38) S)
/-- assayer/assayerref5.Plain -/
def c15 (C : Callee) (n : Nat) : Cd V6 := seqK (c15_0 C) (seqK (seqK (c15_1 C) (condK c15_2 (seqK (c15_3 C) (retK)) (skipK))) (seqK (seqK (c15_4 C) (blockK 0 (loopK n (c15_11 C n)))) (seqK (c15_12 C) (retK))))
def r15 (v : V6) (S : AW) : R := (V6.casesOn v fun v0 v2 v3 v20 v24 v38 => some (v2, S))
def g15 (C : Callee) (n : Nat) (args : List Value) (S : AW) : R := c15 C n (V6.mk (argV args 0) (argV args 2) (argV args 3) (argV args 20) (argV args 24) (argV args 38)) S fun o v S => EX.casesOn o (r15 v S) (fun _ => none) (r15 v S)
/-! (*assayer/assayerref9.loader).text -/
def c16_0 (C : Callee) : Cd V7 := fun v S κ => (V7.casesOn v fun v0 v1 v4 v5 v6 v14 v27 => 
  κ .normal (V7.mk v0 v1 (.string ⟨#[]⟩) (.bool false) v6 v14 v27) S)
def c16_1 (C : Callee) : Cd V7 := fun v S κ => (V7.casesOn v fun v0 v1 v4 v5 v6 v14 v27 => 
  κ .normal (V7.mk v0 v1 v4 v5 (.int .i64 0) v14 v27) S)
def c16_2 (C : Callee) : Cd V7 := fun v S κ => (V7.casesOn v fun v0 v1 v4 v5 v6 v14 v27 => 
  kNilc v0 S fun v28 S28 =>
  kFad 0 v28 S28 fun v29 S29 =>
  kFad 1 v29 S29 fun v30 S30 =>
  kLd none v30 S30 fun v31 S31 =>
  kLen false v31 S31 fun v32 S32 =>
  kBin .lss v6 v32 S32 fun v33 S33 =>
  κ .normal (V7.mk v0 v1 v4 v5 v6 v33 v27) S33)
def c16_3 : V7 → Value := fun v => (V7.casesOn v fun v0 v1 v4 v5 v6 v14 v27 => v14)
def c16_4 (C : Callee) : Cd V7 := fun v S κ => (V7.casesOn v fun v0 v1 v4 v5 v6 v14 v27 => 
  kNilc v0 S fun v28 S28 =>
  kFad 0 v28 S28 fun v29 S29 =>
  kFad 1 v29 S29 fun v30 S30 =>
  kLd none v30 S30 fun v31 S31 =>
  kIad 2 v31 v6 S31 fun v32 S32 =>
  kFad 0 v32 S32 fun v33 S33 =>
  kLd none v33 S33 fun v34 S34 =>
  kBin .eql v34 v1 S34 fun v35 S35 =>
  κ .normal (V7.mk v0 v1 v4 v5 v6 v14 v35) S35)
def c16_5 : V7 → Value := fun v => (V7.casesOn v fun v0 v1 v4 v5 v6 v14 v27 => v27)
def c16_6 (C : Callee) : Cd V7 := fun v S κ => (V7.casesOn v fun v0 v1 v4 v5 v6 v14 v27 => 
  kNilc v0 S fun v28 S28 =>
  kFad 0 v28 S28 fun v29 S29 =>
  kFad 1 v29 S29 fun v30 S30 =>
  kLd none v30 S30 fun v31 S31 =>
  kIad 2 v31 v6 S31 fun v32 S32 =>
  kFad 1 v32 S32 fun v33 S33 =>
  kLd none v33 S33 fun v34 S34 =>
  κ .normal (V7.mk v0 v1 v34 (.bool true) v6 v14 v27) S34)
def c16_7 (C : Callee) : Cd V7 := fun v S κ => (V7.casesOn v fun v0 v1 v4 v5 v6 v14 v27 => 
  kBin .add v6 (.int .i64 1) S fun v28 S28 =>
  κ .normal (V7.mk v0 v1 v4 v5 v28 v14 v27) S28)
def c16_8 (C : Callee) (n : Nat) : Cd V7 := seqK (seqK (c16_2 C) (condK c16_3 (skipK) (exitK 0))) (seqK (blockK 1 (seqK (c16_4 C) (condK c16_5 (seqK (c16_6 C) (retK)) (skipK)))) (c16_7 C))
def c16_9 (C : Callee) : Cd V7 := fun v S κ => (V7.casesOn v fun v0 v1 v4 v5 v6 v14 v27 => 
  κ .normal (V7.mk v0 v1 (.string ⟨#[]⟩) (.bool false) v6 v14 v27) S)
/-- (*assayer/assayerref9.loader).text -/
def c16 (C : Callee) (n : Nat) : Cd V7 := seqK (c16_0 C) (seqK (seqK (c16_1 C) (blockK 0 (loopK n (c16_8 C n)))) (seqK (c16_9 C) (retK)))
def r16 (v : V7) (S : AW) : R := (V7.casesOn v fun v0 v1 v4 v5 v6 v14 v27 => some (.tuple #[v4, v5], S))
def g16 (C : Callee) (n : Nat) (args : List Value) (S : AW) : R := c16 C n (V7.mk (argV args 0) (argV args 1) (argV args 4) (argV args 5) (argV args 6) (argV args 14) (argV args 27)) S fun o v S => EX.casesOn o (r16 v S) (fun _ => none) (r16 v S)
/-! (*assayer/assayerref9.loader).down -/
def c17_0 (C : Callee) : Cd V14 := fun v S κ => (V14.casesOn v fun v0 v1 v4 v6 v7 v8 v9 v10 v12 v26 v55 v69 v79 v85 => 
  kCall C 16 [v0, v1] S fun v86 S86 =>
  kExt 0 v86 S86 fun v87 S87 =>
  kExt 1 v86 S87 fun v88 S88 =>
  κ .normal (V14.mk v0 v1 v87 v6 v7 v8 v9 v10 v12 v26 v55 v69 v79 v85) S88)
def c17_1 (C : Callee) : Cd V14 := fun v S κ => (V14.casesOn v fun v0 v1 v4 v6 v7 v8 v9 v10 v12 v26 v55 v69 v79 v85 => 
  kCall C 29 [v4] S fun v86 S86 =>
  kExt 0 v86 S86 fun v87 S87 =>
  kExt 1 v86 S87 fun v88 S88 =>
  kExt 2 v86 S88 fun v89 S89 =>
  kNew 42 3 [.slice none 0 0, .slice none 0 0, .slice none 0 0] S89 fun v90 S90 =>
  kSt 3 v90 v87 S90 fun v91 S91 =>
  κ .normal (V14.mk v0 v1 v4 v90 v88 v89 v9 v10 v12 v26 v55 v69 v79 v85) S91)
def c17_2 (C : Callee) : Cd V14 := fun v S κ => (V14.casesOn v fun v0 v1 v4 v6 v7 v8 v9 v10 v12 v26 v55 v69 v79 v85 => 
  kBin .neq v7 (.int .i64 0) S fun v86 S86 =>
  κ .normal (V14.mk v0 v1 v4 v6 v7 v8 v9 v10 v12 v86 v55 v69 v79 v85) S86)
def c17_3 : V14 → Value := fun v => (V14.casesOn v fun v0 v1 v4 v6 v7 v8 v9 v10 v12 v26 v55 v69 v79 v85 => v26)
def c17_4 (C : Callee) : Cd V14 := fun v S κ => (V14.casesOn v fun v0 v1 v4 v6 v7 v8 v9 v10 v12 v26 v55 v69 v79 v85 => 
  kCall C 30 [v0, v7, v1, v8] S fun v86 S86 =>
  κ .normal (V14.mk v0 v1 v4 v6 v7 v8 v9 v10 v12 v26 v55 v69 v79 v85) S86)
def c17_5 (C : Callee) : Cd V14 := fun v S κ => (V14.casesOn v fun v0 v1 v4 v6 v7 v8 v9 v10 v12 v26 v55 v69 v79 v85 => 
  kLit 9 1 [.string ⟨#[]⟩] 0 [] S fun v86 S86 =>
  kNilc v0 S86 fun v87 S87 =>
  kFad 4 v87 S87 fun v88 S88 =>
  kLd none v88 S88 fun v89 S89 =>
  kApp 9 1 16 v86 v89 S89 fun v90 S90 =>
  kLit 9 1 [.string ⟨#[]⟩] 1 [(0, 1, v1)] S90 fun v91 S91 =>
  kApp 9 1 16 v90 v91 S91 fun v92 S92 =>
  kNilc v0 S92 fun v93 S93 =>
  kFad 4 v93 S93 fun v94 S94 =>
  kSt 1 v94 v92 S94 fun v95 S95 =>
  κ .normal (V14.mk v0 v1 v4 v6 v7 v8 v9 v10 v12 v26 v55 v69 v79 v85) S95)
def c17_6 (C : Callee) : Cd V14 := fun v S κ => (V14.casesOn v fun v0 v1 v4 v6 v7 v8 v9 v10 v12 v26 v55 v69 v79 v85 => 
  κ .normal (V14.mk v0 v1 v4 v6 v7 v8 (.int .i64 0) v10 v12 v26 v55 v69 v79 v85) S)
def c17_7 (C : Callee) : Cd V14 := fun v S κ => (V14.casesOn v fun v0 v1 v4 v6 v7 v8 v9 v10 v12 v26 v55 v69 v79 v85 => 
  kFad 0 v6 S fun v86 S86 =>
  kLd none v86 S86 fun v87 S87 =>
  kLen false v87 S87 fun v88 S88 =>
  kBin .lss v9 v88 S88 fun v89 S89 =>
  bl v89 fun b => cond b
   (kNilc v0 S89 fun v90 S90 =>
   kFad 5 v90 S90 fun v91 S91 =>
   kLd none v91 S91 fun v92 S92 =>
   kBin .eql v92 (.int .i64 0) S92 fun v93 S93 =>
   κ .normal (V14.mk v0 v1 v4 v6 v7 v8 v9 v10 v12 v26 v93 v69 v79 v85) S93)
   (κ .normal (V14.mk v0 v1 v4 v6 v7 v8 v9 v10 v12 v26 (.bool false) v69 v79 v85) S89))
def c17_8 : V14 → Value := fun v => (V14.casesOn v fun v0 v1 v4 v6 v7 v8 v9 v10 v12 v26 v55 v69 v79 v85 => v55)
def c17_9 (C : Callee) : Cd V14 := fun v S κ => (V14.casesOn v fun v0 v1 v4 v6 v7 v8 v9 v10 v12 v26 v55 v69 v79 v85 => 
  kFad 0 v6 S fun v86 S86 =>
  kLd none v86 S86 fun v87 S87 =>
  kIad 1 v87 v9 S87 fun v88 S88 =>
  kLd none v88 S88 fun v89 S89 =>
  κ .normal (V14.mk v0 v1 v4 v6 v7 v8 v9 v89 v12 v26 v55 v69 v79 v85) S89)
def c17_10 (C : Callee) : Cd V14 := fun v S κ => (V14.casesOn v fun v0 v1 v4 v6 v7 v8 v9 v10 v12 v26 v55 v69 v79 v85 => 
  kCall C 16 [v0, v10] S fun v86 S86 =>
  kExt 0 v86 S86 fun v87 S87 =>
  kExt 1 v86 S87 fun v88 S88 =>
  κ .normal (V14.mk v0 v1 v4 v6 v7 v8 v9 v10 v88 v26 v55 v69 v79 v85) S88)
def c17_11 (C : Callee) : Cd V14 := fun v S κ => (V14.casesOn v fun v0 v1 v4 v6 v7 v8 v9 v10 v12 v26 v55 v69 v79 v85 => 
  kNilc v0 S fun v86 S86 =>
  kFad 4 v86 S86 fun v87 S87 =>
  kLd none v87 S87 fun v88 S88 =>
  kCall C 31 [v88, v10] S88 fun v89 S89 =>
  κ .normal (V14.mk v0 v1 v4 v6 v7 v8 v9 v10 v12 v26 v55 v89 v79 v85) S89)
def c17_12 : V14 → Value := fun v => (V14.casesOn v fun v0 v1 v4 v6 v7 v8 v9 v10 v12 v26 v55 v69 v79 v85 => v69)
def c17_13 (C : Callee) : Cd V14 := fun v S κ => (V14.casesOn v fun v0 v1 v4 v6 v7 v8 v9 v10 v12 v26 v55 v69 v79 v85 => 
  kCall C 30 [v0, (.int .i64 9), v1, (.int .i64 0)] S fun v86 S86 =>
  κ .normal (V14.mk v0 v1 v4 v6 v7 v8 v9 v10 v12 v26 v55 v69 v79 v85) S86)
def c17_14 (C : Callee) : Cd V14 := fun v S κ => (V14.casesOn v fun v0 v1 v4 v6 v7 v8 v9 v10 v12 v26 v55 v69 v79 v85 => 
  kUn .not v12 S fun v86 S86 =>
  κ .normal (V14.mk v0 v1 v4 v6 v7 v8 v9 v10 v12 v26 v55 v69 v86 v85) S86)
def c17_15 : V14 → Value := fun v => (V14.casesOn v fun v0 v1 v4 v6 v7 v8 v9 v10 v12 v26 v55 v69 v79 v85 => v79)
def c17_16 (C : Callee) : Cd V14 := fun v S κ => (V14.casesOn v fun v0 v1 v4 v6 v7 v8 v9 v10 v12 v26 v55 v69 v79 v85 => 
  kCall C 30 [v0, (.int .i64 15), v1, (.int .i64 0)] S fun v86 S86 =>
  κ .normal (V14.mk v0 v1 v4 v6 v7 v8 v9 v10 v12 v26 v55 v69 v79 v85) S86)
def c17_17 (C : Callee) : Cd V14 := fun v S κ => (V14.casesOn v fun v0 v1 v4 v6 v7 v8 v9 v10 v12 v26 v55 v69 v79 v85 => 
  kNilc v0 S fun v86 S86 =>
  kFad 2 v86 S86 fun v87 S87 =>
  kFad 0 v87 S87 fun v88 S88 =>
  kLd none v88 S88 fun v89 S89 =>
  kCall C 31 [v89, v10] S89 fun v90 S90 =>
  kUn .not v90 S90 fun v91 S91 =>
  κ .normal (V14.mk v0 v1 v4 v6 v7 v8 v9 v10 v12 v26 v55 v69 v79 v91) S91)
def c17_18 : V14 → Value := fun v => (V14.casesOn v fun v0 v1 v4 v6 v7 v8 v9 v10 v12 v26 v55 v69 v79 v85 => v85)
def c17_19 (C : Callee) : Cd V14 := fun v S κ => (V14.casesOn v fun v0 v1 v4 v6 v7 v8 v9 v10 v12 v26 v55 v69 v79 v85 => 
  kCall C 17 [v0, v10] S fun v86 S86 =>
  κ .normal (V14.mk v0 v1 v4 v6 v7 v8 v9 v10 v12 v26 v55 v69 v79 v85) S86)
def c17_20 (C : Callee) : Cd V14 := fun v S κ => (V14.casesOn v fun v0 v1 v4 v6 v7 v8 v9 v10 v12 v26 v55 v69 v79 v85 => 
  kBin .add v9 (.int .i64 1) S fun v86 S86 =>
  κ .normal (V14.mk v0 v1 v4 v6 v7 v8 v86 v10 v12 v26 v55 v69 v79 v85) S86)
def c17_21 (C : Callee) (n : Nat) : Cd V14 := seqK (seqK (c17_7 C) (condK c17_8 (skipK) (exitK 0))) (seqK (blockK 1 (seqK (c17_9 C) (seqK (c17_10 C) (blockK 2 (seqK (c17_11 C) (condK c17_12 (c17_13 C) (seqK (c17_14 C) (condK c17_15 (c17_16 C) (seqK (c17_17 C) (condK c17_18 (c17_19 C) (skipK))))))))))) (c17_20 C))
def c17_22 (C : Callee) : Cd V14 := fun v S κ => (V14.casesOn v fun v0 v1 v4 v6 v7 v8 v9 v10 v12 v26 v55 v69 v79 v85 => 
  kNilc v0 S fun v86 S86 =>
  kFad 4 v86 S86 fun v87 S87 =>
  kLd none v87 S87 fun v88 S88 =>
  kNilc v0 S88 fun v89 S89 =>
  kFad 4 v89 S89 fun v90 S90 =>
  kLd none v90 S90 fun v91 S91 =>
  kLen false v91 S91 fun v92 S92 =>
  kBin .sub v92 (.int .i64 1) S92 fun v93 S93 =>
  kSlV C 1 v88 none (some v93) none S93 fun v94 S94 =>
  kNilc v0 S94 fun v95 S95 =>
  kFad 4 v95 S95 fun v96 S96 =>
  kSt 1 v96 v94 S96 fun v97 S97 =>
  κ .normal (V14.mk v0 v1 v4 v6 v7 v8 v9 v10 v12 v26 v55 v69 v79 v85) S97)
def c17_23 (C : Callee) : Cd V14 := fun v S κ => (V14.casesOn v fun v0 v1 v4 v6 v7 v8 v9 v10 v12 v26 v55 v69 v79 v85 => 
  kNilc v0 S fun v86 S86 =>
  kFad 2 v86 S86 fun v87 S87 =>
  kFad 0 v87 S87 fun v88 S88 =>
  kLd none v88 S88 fun v89 S89 =>
  kLit 9 1 [.string ⟨#[]⟩] 1 [(0, 1, v1)] S89 fun v90 S90 =>
  kNilc v0 S90 fun v91 S91 =>
  kFad 2 v91 S91 fun v92 S92 =>
  kFad 1 v92 S92 fun v93 S93 =>
  kLd none v93 S93 fun v94 S94 =>
  kLd (some 3) v6 S94 fun v95 S95 =>
  kLit 42 3 [.slice none 0 0, .slice none 0 0, .slice none 0 0] 1 [(0, 3, v95)] S95 fun v96 S96 =>
  kLd (some 3) v6 S96 fun u _ => cond (veqB u v95)
   (kLd none v93 S96 fun u _ => cond (veqB u v94)
    (kLd none v88 S96 fun u _ => cond (veqB u v89)
     (kApp 9 1 16 v89 v90 S96 fun v98 S98 =>
     cond (rowSame S98 S96 v96)
      (kLd (some 3) v6 S98 fun u _ => cond (veqB u v95)
       (kLd none v93 S98 fun u _ => cond (veqB u v94)
        (kApp 42 3 72 v94 v96 S98 fun v99 S99 =>
        kNilc v0 S99 fun v100 S100 =>
        kFad 2 v100 S100 fun v101 S101 =>
        kFad 0 v101 S101 fun v102 S102 =>
        kSt 1 v102 v98 S102 fun v103 S103 =>
        kNilc v0 S103 fun v104 S104 =>
        kFad 2 v104 S104 fun v105 S105 =>
        kFad 1 v105 S105 fun v106 S106 =>
        kSt 1 v106 v99 S106 fun v107 S107 =>
        κ .normal (V14.mk v0 v1 v4 v6 v7 v8 v9 v10 v12 v26 v55 v69 v79 v85) S107) none) none) none) none) none) none)
/-- (*assayer/assayerref9.loader).down -/
def c17 (C : Callee) (n : Nat) : Cd V14 := seqK (c17_0 C) (seqK (c17_1 C) (seqK (seqK (c17_2 C) (condK c17_3 (seqK (c17_4 C) (retK)) (skipK))) (seqK (c17_5 C) (seqK (seqK (c17_6 C) (blockK 0 (loopK n (c17_21 C n)))) (seqK (c17_22 C) (c17_23 C))))))
def r17 (v : V14) (S : AW) : R := (V14.casesOn v fun v0 v1 v4 v6 v7 v8 v9 v10 v12 v26 v55 v69 v79 v85 => some (.tuple #[], S))
def g17 (C : Callee) (n : Nat) (args : List Value) (S : AW) : R := c17 C n (V14.mk (argV args 0) (argV args 1) (argV args 4) (argV args 6) (argV args 7) (argV args 8) (argV args 9) (argV args 10) (argV args 12) (argV args 26) (argV args 55) (argV args 69) (argV args 79) (argV args 85)) S fun o v S => EX.casesOn o (r17 v S) (fun _ => none) (r17 v S)
/-! strings.Split -/
def c20_0 (C : Callee) : Cd V3 := fun v S κ => (V3.casesOn v fun v0 v1 v4 => 
  κ .normal (V3.mk v0 v1 (.slice none 0 0)) S)
def c20_1 (C : Callee) : Cd V3 := fun v S κ => (V3.casesOn v fun v0 v1 v4 => 
  kCall C 36 [v0, v1, (.int .i64 0), (.int .i64 (-1))] S fun v5 S5 =>
  κ .normal (V3.mk v0 v1 v5) S5)
/-- strings.Split -/
def c20 (C : Callee) (n : Nat) : Cd V3 := seqK (c20_0 C) (seqK (c20_1 C) (retK))
def r20 (v : V3) (S : AW) : R := (V3.casesOn v fun v0 v1 v4 => some (v4, S))
def g20 (C : Callee) (n : Nat) (args : List Value) (S : AW) : R := c20 C n (V3.mk (argV args 0) (argV args 1) (argV args 4)) S fun o v S => EX.casesOn o (r20 v S) (fun _ => none) (r20 v S)
/-! assayer/scope.at -/
def c21_0 (C : Callee) : Cd V8 := fun v S κ => (V8.casesOn v fun v0 v1 v2 v3 v5 v6 v7 v13 => 
  kBox 37 2 v0 S fun v14 S14 =>
  kBox 76 2 v2 S14 fun v15 S15 =>
  kNew 51 12 [.int .i64 0, .string ⟨#[]⟩, .string ⟨#[]⟩, .int .i64 0, .int .i64 0, .int .u64 0, .string ⟨#[]⟩, .slice none 0 0, .slice none 0 0, .slice none 0 0, .string ⟨#[]⟩, .slice none 0 0] S15 fun v16 S16 =>
  κ .normal (V8.mk v0 v1 v2 v14 v15 v16 (.bool false) v13) S16)
def c21_1 (C : Callee) : Cd V8 := fun v S κ => (V8.casesOn v fun v0 v1 v2 v3 v5 v6 v7 v13 => 
  kLd (some 2) v3 S fun v14 S14 =>
  kFad 0 v5 S14 fun v15 S15 =>
  kLd none v15 S15 fun v16 S16 =>
  kCall C 37 [v14, v1, v16] S16 fun v17 S17 =>
  kUn .not v17 S17 fun v18 S18 =>
  κ .normal (V8.mk v0 v1 v2 v3 v5 v6 v7 v18) S18)
def c21_2 : V8 → Value := fun v => (V8.casesOn v fun v0 v1 v2 v3 v5 v6 v7 v13 => v13)
def c21_3 (C : Callee) : Cd V8 := fun v S κ => (V8.casesOn v fun v0 v1 v2 v3 v5 v6 v7 v13 => 
  kLd (some 12) v6 S fun v14 S14 =>
  kSt 12 v6 v14 S14 fun v15 S15 =>
  κ .normal (V8.mk v0 v1 v2 v3 v5 v6 (.bool false) v13) S15)
def c21_4 (C : Callee) : Cd V8 := fun v S κ => (V8.casesOn v fun v0 v1 v2 v3 v5 v6 v7 v13 => 
  kLd (some 2) v3 S fun v14 S14 =>
  kFad 0 v5 S14 fun v15 S15 =>
  kLd none v15 S15 fun v16 S16 =>
  kLd (some 2) v5 S16 fun v17 S17 =>
  kCall C 38 [v14, v16] S17 fun v18 S18 =>
  kMlk (.agg [.str, .str]) (.agg #[.int .i64 0, .string ⟨#[]⟩, .string ⟨#[]⟩, .int .i64 0, .int .i64 0, .int .u64 0, .string ⟨#[]⟩, .slice none 0 0, .slice none 0 0, .slice none 0 0, .string ⟨#[]⟩, .slice none 0 0]) true v18 v17 S18 fun v19 S19 =>
  kExt 0 v19 S19 fun v20 S20 =>
  kExt 1 v19 S20 fun v21 S21 =>
  kLd (some 2) v5 S21 fun u _ => cond (veqB u v17)
   (kSt 12 v6 v20 S21 fun v22 S22 =>
   κ .normal (V8.mk v0 v1 v2 v3 v5 v6 v21 v13) S22) none)
def c21_5 (C : Callee) : Cd V8 := fun v S κ => (V8.casesOn v fun v0 v1 v2 v3 v5 v6 v7 v13 => 
  kLd (some 12) v6 S fun v14 S14 =>
  kSt 12 v6 v14 S14 fun v15 S15 =>
  κ .normal (V8.mk v0 v1 v2 v3 v5 v6 v7 v13) S15)
/-- assayer/scope.at -/
def c21 (C : Callee) (n : Nat) : Cd V8 := seqK (c21_0 C) (seqK (seqK (c21_1 C) (condK c21_2 (seqK (c21_3 C) (retK)) (skipK))) (seqK (c21_4 C) (seqK (c21_5 C) (retK))))
def r21 (v : V8) (S : AW) : R := (V8.casesOn v fun v0 v1 v2 v3 v5 v6 v7 v13 => kLd (some 12) v6 S fun r6 _ => some (.tuple #[r6, v7], S))
def g21 (C : Callee) (n : Nat) (args : List Value) (S : AW) : R := c21 C n (V8.mk (argV args 0) (argV args 1) (argV args 2) (argV args 3) (argV args 5) (argV args 6) (argV args 7) (argV args 13)) S fun o v S => EX.casesOn o (r21 v S) (fun _ => none) (r21 v S)
/-! (assayer/scope.place).whole -/
def c22_0 (C : Callee) : Cd V3 := fun v S κ => (V3.casesOn v fun v0 v1 v2 => 
  kBox 76 2 v0 S fun v3 S3 =>
  κ .normal (V3.mk v0 v3 (.string ⟨#[]⟩)) S3)
def c22_1 (C : Callee) : Cd V3 := fun v S κ => (V3.casesOn v fun v0 v1 v2 => 
  kFad 0 v1 S fun v3 S3 =>
  kLd none v3 S3 fun v4 S4 =>
  kBin .add v4 (.string ⟨#[46]⟩) S4 fun v5 S5 =>
  kFad 1 v1 S5 fun v6 S6 =>
  kLd none v6 S6 fun v7 S7 =>
  kBin .add v5 v7 S7 fun v8 S8 =>
  κ .normal (V3.mk v0 v1 v8) S8)
/-- (assayer/scope.place).whole -/
def c22 (C : Callee) (n : Nat) : Cd V3 := seqK (c22_0 C) (seqK (c22_1 C) (retK))
def r22 (v : V3) (S : AW) : R := (V3.casesOn v fun v0 v1 v2 => some (v2, S))
def g22 (C : Callee) (n : Nat) (args : List Value) (S : AW) : R := c22 C n (V3.mk (argV args 0) (argV args 1) (argV args 2)) S fun o v S => EX.casesOn o (r22 v S) (fun _ => none) (r22 v S)
/-! assayer/scope.member -/
def c25_0 (C : Callee) : Cd V10 := fun v S κ => (V10.casesOn v fun v0 v1 v2 v3 v4 v6 v7 v8 v9 v23 => 
  kBox 37 2 v0 S fun v24 S24 =>
  kBox 76 2 v2 S24 fun v25 S25 =>
  kBox 9 1 v3 S25 fun v26 S26 =>
  kNew 51 12 [.int .i64 0, .string ⟨#[]⟩, .string ⟨#[]⟩, .int .i64 0, .int .i64 0, .int .u64 0, .string ⟨#[]⟩, .slice none 0 0, .slice none 0 0, .slice none 0 0, .string ⟨#[]⟩, .slice none 0 0] S26 fun v27 S27 =>
  κ .normal (V10.mk v0 v1 v2 v3 v24 v25 v26 v27 (.bool false) v23) S27)
def c25_1 (C : Callee) : Cd V10 := fun v S κ => (V10.casesOn v fun v0 v1 v2 v3 v4 v6 v7 v8 v9 v23 => 
  kLd (some 2) v4 S fun v24 S24 =>
  kLd (some 2) v6 S24 fun v25 S25 =>
  kCall C 21 [v24, v1, v25] S25 fun v26 S26 =>
  kExt 0 v26 S26 fun v27 S27 =>
  kExt 1 v26 S27 fun v28 S28 =>
  kSt 12 v8 v27 S28 fun v29 S29 =>
  κ .normal (V10.mk v0 v1 v2 v3 v4 v6 v7 v8 v28 v23) S29)
def c25_2 (C : Callee) : Cd V10 := fun v S κ => (V10.casesOn v fun v0 v1 v2 v3 v4 v6 v7 v8 v9 v23 => 
  kUn .not v9 S fun v24 S24 =>
  bl v24 fun b => cond b
   (κ .normal (V10.mk v0 v1 v2 v3 v4 v6 v7 v8 v9 (.bool true)) S24)
   (kFad 0 v8 S24 fun v25 S25 =>
   kLd none v25 S25 fun v26 S26 =>
   kBin .neq v26 (.int .i64 2) S26 fun v27 S27 =>
   κ .normal (V10.mk v0 v1 v2 v3 v4 v6 v7 v8 v9 v27) S27))
def c25_3 : V10 → Value := fun v => (V10.casesOn v fun v0 v1 v2 v3 v4 v6 v7 v8 v9 v23 => v23)
def c25_4 (C : Callee) : Cd V10 := fun v S κ => (V10.casesOn v fun v0 v1 v2 v3 v4 v6 v7 v8 v9 v23 => 
  kBuild [.int .i64 0, .string ⟨#[]⟩, .string ⟨#[]⟩, .int .i64 0, .int .i64 0, .int .u64 0, .string ⟨#[]⟩, .slice none 0 0, .slice none 0 0, .slice none 0 0, .string ⟨#[]⟩, .slice none 0 0] [] S fun v24 S24 =>
  kSt 12 v8 v24 S24 fun v25 S25 =>
  κ .normal (V10.mk v0 v1 v2 v3 v4 v6 v7 v8 (.bool false) v23) S25)
def c25_5 (C : Callee) : Cd V10 := fun v S κ => (V10.casesOn v fun v0 v1 v2 v3 v4 v6 v7 v8 v9 v23 => 
  kLd (some 12) v8 S fun v24 S24 =>
  kFad 9 v8 S24 fun v25 S25 =>
  kLd none v25 S25 fun v26 S26 =>
  kVal (.func (.func 40) #[] #[v7]) S26 fun v27 S27 =>
  kCall C 39 [v26, v27] S27 fun v28 S28 =>
  kLd (some 12) v8 S28 fun u _ => cond (veqB u v24)
   (kSt 12 v8 v24 S28 fun v29 S29 =>
   κ .normal (V10.mk v0 v1 v2 v3 v4 v6 v7 v8 v28 v23) S29) none)
/-- assayer/scope.member -/
def c25 (C : Callee) (n : Nat) : Cd V10 := seqK (c25_0 C) (seqK (c25_1 C) (seqK (seqK (c25_2 C) (condK c25_3 (seqK (c25_4 C) (retK)) (skipK))) (seqK (c25_5 C) (retK))))
def r25 (v : V10) (S : AW) : R := (V10.casesOn v fun v0 v1 v2 v3 v4 v6 v7 v8 v9 v23 => kLd (some 12) v8 S fun r8 _ => some (.tuple #[r8, v9], S))
def g25 (C : Callee) (n : Nat) (args : List Value) (S : AW) : R := c25 C n (V10.mk (argV args 0) (argV args 1) (argV args 2) (argV args 3) (argV args 4) (argV args 6) (argV args 7) (argV args 8) (argV args 9) (argV args 23)) S fun o v S => EX.casesOn o (r25 v S) (fun _ => none) (r25 v S)
/-! assayer/assayerref5.letter -/
def c26_0 (C : Callee) : Cd V2 := fun v S κ => (V2.casesOn v fun v0 v2 => 
  κ .normal (V2.mk v0 (.bool false)) S)
def c26_1 (C : Callee) : Cd V2 := fun v S κ => (V2.casesOn v fun v0 v2 => 
  kBin .geq v0 (.int .u8 97) S fun v3 S3 =>
  bl v3 fun b => cond b
   (kBin .leq v0 (.int .u8 122) S3 fun v4 S4 =>
   bl v4 fun b => cond b
    (κ .normal (V2.mk v0 (.bool true)) S4)
    (kBin .geq v0 (.int .u8 65) S4 fun v5 S5 =>
    bl v5 fun b => cond b
     (kBin .leq v0 (.int .u8 90) S5 fun v6 S6 =>
     bl v6 fun b => cond b
      (κ .normal (V2.mk v0 (.bool true)) S6)
      (kBin .eql v0 (.int .u8 95) S6 fun v7 S7 =>
      κ .normal (V2.mk v0 v7) S7))
     (kBin .eql v0 (.int .u8 95) S5 fun v6 S6 =>
     κ .normal (V2.mk v0 v6) S6)))
   (kBin .geq v0 (.int .u8 65) S3 fun v4 S4 =>
   bl v4 fun b => cond b
    (kBin .leq v0 (.int .u8 90) S4 fun v5 S5 =>
    bl v5 fun b => cond b
     (κ .normal (V2.mk v0 (.bool true)) S5)
     (kBin .eql v0 (.int .u8 95) S5 fun v6 S6 =>
     κ .normal (V2.mk v0 v6) S6))
    (kBin .eql v0 (.int .u8 95) S4 fun v5 S5 =>
    κ .normal (V2.mk v0 v5) S5)))
/-- assayer/assayerref5.letter -/
def c26 (C : Callee) (n : Nat) : Cd V2 := seqK (c26_0 C) (seqK (c26_1 C) (retK))
def r26 (v : V2) (S : AW) : R := (V2.casesOn v fun v0 v2 => some (v2, S))
def g26 (C : Callee) (n : Nat) (args : List Value) (S : AW) : R := c26 C n (V2.mk (argV args 0) (argV args 2)) S fun o v S => EX.casesOn o (r26 v S) (fun _ => none) (r26 v S)
/-! assayer/assayerref5.Reserved -/
def c27_0 (C : Callee) : Cd V6 := fun v S κ => (V6.casesOn v fun v0 v2 v3 v4 v9 v17 => 
  κ .normal (V6.mk v0 (.bool false) v3 v4 v9 v17) S)
def c27_1 (C : Callee) : Cd V6 := fun v S κ => (V6.casesOn v fun v0 v2 v3 v4 v9 v17 => 
  kLit 9 1 [.string ⟨#[]⟩] 18 [(0, 1, (.string ⟨#[105, 110, 99, 108, 117, 100, 101]⟩)), (1, 1, (.string ⟨#[110, 97, 109, 101, 115, 112, 97, 99, 101]⟩)), (2, 1, (.string ⟨#[116, 121, 112, 101, 100, 101, 102]⟩)), (3, 1, (.string ⟨#[101, 110, 117, 109]⟩)), (4, 1, (.string ⟨#[99, 111, 110, 115, 116]⟩)), (5, 1, (.string ⟨#[115, 116, 114, 117, 99, 116]⟩)), (6, 1, (.string ⟨#[117, 110, 105, 111, 110]⟩)), (7, 1, (.string ⟨#[101, 120, 99, 101, 112, 116, 105, 111, 110]⟩)), (8, 1, (.string ⟨#[115, 101, 114, 118, 105, 99, 101]⟩)), (9, 1, (.string ⟨#[101, 120, 116, 101, 110, 100, 115]⟩)), (10, 1, (.string ⟨#[116, 104, 114, 111, 119, 115]⟩)), (11, 1, (.string ⟨#[111, 110, 101, 119, 97, 121]⟩)), (12, 1, (.string ⟨#[118, 111, 105, 100]⟩)), (13, 1, (.string ⟨#[114, 101, 113, 117, 105, 114, 101, 100]⟩)), (14, 1, (.string ⟨#[111, 112, 116, 105, 111, 110, 97, 108]⟩)), (15, 1, (.string ⟨#[116, 114, 117, 101]⟩)), (16, 1, (.string ⟨#[102, 97, 108, 115, 101]⟩)), (17, 1, (.string ⟨#[98, 121, 116, 101]⟩))] S fun v18 S18 =>
  κ .normal (V6.mk v0 v2 v18 v4 v9 v17) S18)
def c27_2 (C : Callee) : Cd V6 := fun v S κ => (V6.casesOn v fun v0 v2 v3 v4 v9 v17 => 
  κ .normal (V6.mk v0 v2 v3 (.int .i64 0) v9 v17) S)
def c27_3 (C : Callee) : Cd V6 := fun v S κ => (V6.casesOn v fun v0 v2 v3 v4 v9 v17 => 
  kLen false v3 S fun v18 S18 =>
  kBin .lss v4 v18 S18 fun v19 S19 =>
  κ .normal (V6.mk v0 v2 v3 v4 v19 v17) S19)
def c27_4 : V6 → Value := fun v => (V6.casesOn v fun v0 v2 v3 v4 v9 v17 => v9)
def c27_5 (C : Callee) : Cd V6 := fun v S κ => (V6.casesOn v fun v0 v2 v3 v4 v9 v17 => 
  kIad 1 v3 v4 S fun v18 S18 =>
  kLd none v18 S18 fun v19 S19 =>
  kBin .eql v19 v0 S19 fun v20 S20 =>
  κ .normal (V6.mk v0 v2 v3 v4 v9 v20) S20)
def c27_6 : V6 → Value := fun v => (V6.casesOn v fun v0 v2 v3 v4 v9 v17 => v17)
def c27_7 (C : Callee) : Cd V6 := fun v S κ => (V6.casesOn v fun v0 v2 v3 v4 v9 v17 => 
  κ .normal (V6.mk v0 (.bool true) v3 v4 v9 v17) S)
def c27_8 (C : Callee) : Cd V6 := fun v S κ => (V6.casesOn v fun v0 v2 v3 v4 v9 v17 => 
  kBin .add v4 (.int .i64 1) S fun v18 S18 =>
  κ .normal (V6.mk v0 v2 v3 v18 v9 v17) S18)
def c27_9 (C : Callee) (n : Nat) : Cd V6 := seqK (seqK (c27_3 C) (condK c27_4 (skipK) (exitK 0))) (seqK (blockK 1 (seqK (c27_5 C) (condK c27_6 (seqK (c27_7 C) (retK)) (skipK)))) (c27_8 C))
def c27_10 (C : Callee) : Cd V6 := fun v S κ => (V6.casesOn v fun v0 v2 v3 v4 v9 v17 => 
  kCall C 41 [v0] S fun v18 S18 =>
  kBin .neq v18 (.int .i64 0) S18 fun v19 S19 =>
  κ .normal (V6.mk v0 v19 v3 v4 v9 v17) S19)
/-- assayer/assayerref5.Reserved -/
def c27 (C : Callee) (n : Nat) : Cd V6 := seqK (c27_0 C) (seqK (c27_1 C) (seqK (seqK (c27_2 C) (blockK 0 (loopK n (c27_9 C n)))) (seqK (c27_10 C) (retK))))
def r27 (v : V6) (S : AW) : R := (V6.casesOn v fun v0 v2 v3 v4 v9 v17 => some (v2, S))
def g27 (C : Callee) (n : Nat) (args : List Value) (S : AW) : R := c27 C n (V6.mk (argV args 0) (argV args 2) (argV args 3) (argV args 4) (argV args 9) (argV args 17)) S fun o v S => EX.casesOn o (r27 v S) (fun _ => none) (r27 v S)
/-! assayer/assayerref5.digit -/
def c28_0 (C : Callee) : Cd V2 := fun v S κ => (V2.casesOn v fun v0 v2 => 
  κ .normal (V2.mk v0 (.bool false)) S)
def c28_1 (C : Callee) : Cd V2 := fun v S κ => (V2.casesOn v fun v0 v2 => 
  kBin .geq v0 (.int .u8 48) S fun v3 S3 =>
  bl v3 fun b => cond b
   (kBin .leq v0 (.int .u8 57) S3 fun v4 S4 =>
   κ .normal (V2.mk v0 v4) S4)
   (κ .normal (V2.mk v0 (.bool false)) S3))
/-- assayer/assayerref5.digit -/
def c28 (C : Callee) (n : Nat) : Cd V2 := seqK (c28_0 C) (seqK (c28_1 C) (retK))
def r28 (v : V2) (S : AW) : R := (V2.casesOn v fun v0 v2 => some (v2, S))
def g28 (C : Callee) (n : Nat) (args : List Value) (S : AW) : R := c28 C n (V2.mk (argV args 0) (argV args 2)) S fun o v S => EX.casesOn o (r28 v S) (fun _ => none) (r28 v S)
/-! assayer/assayerref5.Parse -/
def c29_0 (C : Callee) : Cd V16 := fun v S κ => (V16.casesOn v fun v0 v2 v3 v4 v5 v6 v7 v8 v9 v10 v11 v19 v38 v46 v55 v68 => 
  kNew 42 3 [.slice none 0 0, .slice none 0 0, .slice none 0 0] S fun v69 S69 =>
  κ .normal (V16.mk v0 v69 (.int .i64 0) (.int .i64 0) v5 v6 v7 v8 v9 v10 v11 v19 v38 v46 v55 v68) S69)
def c29_1 (C : Callee) : Cd V16 := fun v S κ => (V16.casesOn v fun v0 v2 v3 v4 v5 v6 v7 v8 v9 v10 v11 v19 v38 v46 v55 v68 => 
  kCall C 42 [v0] S fun v69 S69 =>
  kExt 0 v69 S69 fun v70 S70 =>
  kExt 1 v69 S70 fun v71 S71 =>
  kExt 2 v69 S71 fun v72 S72 =>
  κ .normal (V16.mk v0 v2 v3 v4 v70 v71 v72 v8 v9 v10 v11 v19 v38 v46 v55 v68) S72)
def c29_2 (C : Callee) : Cd V16 := fun v S κ => (V16.casesOn v fun v0 v2 v3 v4 v5 v6 v7 v8 v9 v10 v11 v19 v38 v46 v55 v68 => 
  kBin .neq v6 (.int .i64 0) S fun v69 S69 =>
  κ .normal (V16.mk v0 v2 v3 v4 v5 v6 v7 v8 v9 v10 v11 v69 v38 v46 v55 v68) S69)
def c29_3 : V16 → Value := fun v => (V16.casesOn v fun v0 v2 v3 v4 v5 v6 v7 v8 v9 v10 v11 v19 v38 v46 v55 v68 => v19)
def c29_4 (C : Callee) : Cd V16 := fun v S κ => (V16.casesOn v fun v0 v2 v3 v4 v5 v6 v7 v8 v9 v10 v11 v19 v38 v46 v55 v68 => 
  kBuild [.slice none 0 0, .slice none 0 0, .slice none 0 0] [] S fun v69 S69 =>
  kSt 3 v2 v69 S69 fun v70 S70 =>
  κ .normal (V16.mk v0 v2 v6 v7 v5 v6 v7 v8 v9 v10 v11 v19 v38 v46 v55 v68) S70)
def c29_5 (C : Callee) : Cd V16 := fun v S κ => (V16.casesOn v fun v0 v2 v3 v4 v5 v6 v7 v8 v9 v10 v11 v19 v38 v46 v55 v68 => 
  kBuild [.slice none 0 0, .int .i64 0, .int .i64 0, .int .i64 0] [(0, 1, v5)] S fun v69 S69 =>
  kBox 114 4 v69 S69 fun v70 S70 =>
  κ .normal (V16.mk v0 v2 v3 v4 v5 v6 v7 v70 v9 v10 v11 v19 v38 v46 v55 v68) S70)
def c29_6 (C : Callee) : Cd V16 := fun v S κ => (V16.casesOn v fun v0 v2 v3 v4 v5 v6 v7 v8 v9 v10 v11 v19 v38 v46 v55 v68 => 
  kNew 42 3 [.slice none 0 0, .slice none 0 0, .slice none 0 0] S fun v69 S69 =>
  κ .normal (V16.mk v0 v2 v3 v4 v5 v6 v7 v8 v69 v10 v11 v19 v38 v46 v55 v68) S69)
def c29_7 (C : Callee) : Cd V16 := fun v S κ => (V16.casesOn v fun v0 v2 v3 v4 v5 v6 v7 v8 v9 v10 v11 v19 v38 v46 v55 v68 => 
  kCall C 43 [v8, v9] S fun v69 S69 =>
  κ .normal (V16.mk v0 v2 v3 v4 v5 v6 v7 v8 v9 v10 v11 v19 v38 v46 v55 v68) S69)
def c29_8 (C : Callee) : Cd V16 := fun v S κ => (V16.casesOn v fun v0 v2 v3 v4 v5 v6 v7 v8 v9 v10 v11 v19 v38 v46 v55 v68 => 
  kNilc v8 S fun v69 S69 =>
  kFad 2 v69 S69 fun v70 S70 =>
  kLd none v70 S70 fun v71 S71 =>
  kBin .eql v71 (.int .i64 0) S71 fun v72 S72 =>
  bl v72 fun b => cond b
   (kCall C 44 [v8] S72 fun v73 S73 =>
   kFld none 0 v73 S73 fun v74 S74 =>
   kBin .neq v74 (.int .i64 6) S74 fun v75 S75 =>
   κ .normal (V16.mk v0 v2 v3 v4 v5 v6 v7 v8 v9 v10 v11 v19 v75 v46 v55 v68) S75)
   (κ .normal (V16.mk v0 v2 v3 v4 v5 v6 v7 v8 v9 v10 v11 v19 (.bool false) v46 v55 v68) S72))
def c29_9 : V16 → Value := fun v => (V16.casesOn v fun v0 v2 v3 v4 v5 v6 v7 v8 v9 v10 v11 v19 v38 v46 v55 v68 => v38)
def c29_10 (C : Callee) : Cd V16 := fun v S κ => (V16.casesOn v fun v0 v2 v3 v4 v5 v6 v7 v8 v9 v10 v11 v19 v38 v46 v55 v68 => 
  kFad 2 v9 S fun v69 S69 =>
  kLd none v69 S69 fun v70 S70 =>
  kLen false v70 S70 fun v71 S71 =>
  kBin .eql v71 (.int .i64 30) S71 fun v72 S72 =>
  bl v72 fun b => cond b
   (kCall C 45 [v8] S72 fun v73 S73 =>
   κ .normal (V16.mk v0 v2 v3 v4 v5 v6 v7 v8 v9 v10 v11 v19 v38 v73 v55 v68) S73)
   (κ .normal (V16.mk v0 v2 v3 v4 v5 v6 v7 v8 v9 v10 v11 v19 v38 (.bool false) v55 v68) S72))
def c29_11 : V16 → Value := fun v => (V16.casesOn v fun v0 v2 v3 v4 v5 v6 v7 v8 v9 v10 v11 v19 v38 v46 v55 v68 => v46)
def c29_12 (C : Callee) : Cd V16 := fun v S κ => (V16.casesOn v fun v0 v2 v3 v4 v5 v6 v7 v8 v9 v10 v11 v19 v38 v46 v55 v68 => 
  kCall C 46 [v8, (.int .i64 4)] S fun v69 S69 =>
  κ .normal (V16.mk v0 v2 v3 v4 v5 v6 v7 v8 v9 v10 v11 v19 v38 v46 v55 v68) S69)
def c29_13 (C : Callee) : Cd V16 := fun v S κ => (V16.casesOn v fun v0 v2 v3 v4 v5 v6 v7 v8 v9 v10 v11 v19 v38 v46 v55 v68 => 
  kCall C 47 [v8] S fun v69 S69 =>
  kExt 0 v69 S69 fun v70 S70 =>
  kExt 1 v69 S70 fun v71 S71 =>
  kNew 51 12 [.int .i64 0, .string ⟨#[]⟩, .string ⟨#[]⟩, .int .i64 0, .int .i64 0, .int .u64 0, .string ⟨#[]⟩, .slice none 0 0, .slice none 0 0, .slice none 0 0, .string ⟨#[]⟩, .slice none 0 0] S71 fun v72 S72 =>
  kSt 12 v72 v70 S72 fun v73 S73 =>
  κ .normal (V16.mk v0 v2 v3 v4 v5 v6 v7 v8 v9 v72 v71 v19 v38 v46 v55 v68) S73)
def c29_14 (C : Callee) : Cd V16 := fun v S κ => (V16.casesOn v fun v0 v2 v3 v4 v5 v6 v7 v8 v9 v10 v11 v19 v38 v46 v55 v68 => 
  kUn .not v11 S fun v69 S69 =>
  κ .normal (V16.mk v0 v2 v3 v4 v5 v6 v7 v8 v9 v10 v11 v19 v38 v46 v69 v68) S69)
def c29_15 : V16 → Value := fun v => (V16.casesOn v fun v0 v2 v3 v4 v5 v6 v7 v8 v9 v10 v11 v19 v38 v46 v55 v68 => v55)
def c29_16 (C : Callee) : Cd V16 := fun v S κ => (V16.casesOn v fun v0 v2 v3 v4 v5 v6 v7 v8 v9 v10 v11 v19 v38 v46 v55 v68 => 
  kCall C 46 [v8, (.int .i64 2)] S fun v69 S69 =>
  κ .normal (V16.mk v0 v2 v3 v4 v5 v6 v7 v8 v9 v10 v11 v19 v38 v46 v55 v68) S69)
def c29_17 (C : Callee) : Cd V16 := fun v S κ => (V16.casesOn v fun v0 v2 v3 v4 v5 v6 v7 v8 v9 v10 v11 v19 v38 v46 v55 v68 => 
  kFad 2 v9 S fun v69 S69 =>
  kLd none v69 S69 fun v70 S70 =>
  kLd (some 12) v10 S70 fun v71 S71 =>
  kLit 51 12 [.int .i64 0, .string ⟨#[]⟩, .string ⟨#[]⟩, .int .i64 0, .int .i64 0, .int .u64 0, .string ⟨#[]⟩, .slice none 0 0, .slice none 0 0, .slice none 0 0, .string ⟨#[]⟩, .slice none 0 0] 1 [(0, 12, v71)] S71 fun v72 S72 =>
  kApp 51 12 192 v70 v72 S72 fun v73 S73 =>
  kFad 2 v9 S73 fun v74 S74 =>
  kSt 1 v74 v73 S74 fun v75 S75 =>
  κ .normal (V16.mk v0 v2 v3 v4 v5 v6 v7 v8 v9 v10 v11 v19 v38 v46 v55 v68) S75)
def c29_18 (C : Callee) (n : Nat) : Cd V16 := seqK (seqK (c29_8 C) (condK c29_9 (skipK) (exitK 0))) (blockK 1 (seqK (seqK (c29_10 C) (condK c29_11 (seqK (c29_12 C) (exitK 0)) (skipK))) (seqK (c29_13 C) (seqK (seqK (c29_14 C) (condK c29_15 (c29_16 C) (skipK))) (c29_17 C)))))
def c29_19 (C : Callee) : Cd V16 := fun v S κ => (V16.casesOn v fun v0 v2 v3 v4 v5 v6 v7 v8 v9 v10 v11 v19 v38 v46 v55 v68 => 
  kNilc v8 S fun v69 S69 =>
  kFad 2 v69 S69 fun v70 S70 =>
  kLd none v70 S70 fun v71 S71 =>
  kBin .neq v71 (.int .i64 0) S71 fun v72 S72 =>
  κ .normal (V16.mk v0 v2 v3 v4 v5 v6 v7 v8 v9 v10 v11 v19 v38 v46 v55 v72) S72)
def c29_20 : V16 → Value := fun v => (V16.casesOn v fun v0 v2 v3 v4 v5 v6 v7 v8 v9 v10 v11 v19 v38 v46 v55 v68 => v68)
def c29_21 (C : Callee) : Cd V16 := fun v S κ => (V16.casesOn v fun v0 v2 v3 v4 v5 v6 v7 v8 v9 v10 v11 v19 v38 v46 v55 v68 => 
  kBuild [.slice none 0 0, .slice none 0 0, .slice none 0 0] [] S fun v69 S69 =>
  kNilc v8 S69 fun v70 S70 =>
  kFad 2 v70 S70 fun v71 S71 =>
  kLd none v71 S71 fun v72 S72 =>
  kNilc v8 S72 fun v73 S73 =>
  kFad 3 v73 S73 fun v74 S74 =>
  kLd none v74 S74 fun v75 S75 =>
  kSt 3 v2 v69 S75 fun v76 S76 =>
  kLd none v74 S76 fun u _ => cond (veqB u v75)
   (kLd none v71 S76 fun u _ => cond (veqB u v72)
    (κ .normal (V16.mk v0 v2 v72 v75 v5 v6 v7 v8 v9 v10 v11 v19 v38 v46 v55 v68) S76) none) none)
def c29_22 (C : Callee) : Cd V16 := fun v S κ => (V16.casesOn v fun v0 v2 v3 v4 v5 v6 v7 v8 v9 v10 v11 v19 v38 v46 v55 v68 => 
  kLd (some 3) v9 S fun v69 S69 =>
  kSt 3 v2 v69 S69 fun v70 S70 =>
  κ .normal (V16.mk v0 v2 (.int .i64 0) (.int .i64 0) v5 v6 v7 v8 v9 v10 v11 v19 v38 v46 v55 v68) S70)
/-- assayer/assayerref5.Parse -/
def c29 (C : Callee) (n : Nat) : Cd V16 := seqK (c29_0 C) (seqK (c29_1 C) (seqK (seqK (c29_2 C) (condK c29_3 (seqK (c29_4 C) (retK)) (skipK))) (seqK (c29_5 C) (seqK (c29_6 C) (seqK (c29_7 C) (seqK (blockK 0 (loopK n (c29_18 C n))) (seqK (seqK (c29_19 C) (condK c29_20 (seqK (c29_21 C) (retK)) (skipK))) (seqK (c29_22 C) (retK)))))))))
def r29 (v : V16) (S : AW) : R := (V16.casesOn v fun v0 v2 v3 v4 v5 v6 v7 v8 v9 v10 v11 v19 v38 v46 v55 v68 => kLd (some 3) v2 S fun r2 _ => some (.tuple #[r2, v3, v4], S))
def g29 (C : Callee) (n : Nat) (args : List Value) (S : AW) : R := c29 C n (V16.mk (argV args 0) (argV args 2) (argV args 3) (argV args 4) (argV args 5) (argV args 6) (argV args 7) (argV args 8) (argV args 9) (argV args 10) (argV args 11) (argV args 19) (argV args 38) (argV args 46) (argV args 55) (argV args 68)) S fun o v S => EX.casesOn o (r29 v S) (fun _ => none) (r29 v S)
/-! (*assayer/assayerref9.loader).fail -/
def c30_0 (C : Callee) : Cd V5 := fun v S κ => (V5.casesOn v fun v0 v1 v2 v3 v12 => 
  kNilc v0 S fun v13 S13 =>
  kFad 5 v13 S13 fun v14 S14 =>
  kLd none v14 S14 fun v15 S15 =>
  kBin .eql v15 (.int .i64 0) S15 fun v16 S16 =>
  κ .normal (V5.mk v0 v1 v2 v3 v16) S16)
def c30_1 : V5 → Value := fun v => (V5.casesOn v fun v0 v1 v2 v3 v12 => v12)
def c30_2 (C : Callee) : Cd V5 := fun v S κ => (V5.casesOn v fun v0 v1 v2 v3 v12 => 
  kNilc v0 S fun v13 S13 =>
  kFad 5 v13 S13 fun v14 S14 =>
  kSt 1 v14 v1 S14 fun v15 S15 =>
  kNilc v0 S15 fun v16 S16 =>
  kFad 6 v16 S16 fun v17 S17 =>
  kSt 1 v17 v2 S17 fun v18 S18 =>
  kNilc v0 S18 fun v19 S19 =>
  kFad 7 v19 S19 fun v20 S20 =>
  kSt 1 v20 v3 S20 fun v21 S21 =>
  κ .normal (V5.mk v0 v1 v2 v3 v12) S21)
/-- (*assayer/assayerref9.loader).fail -/
def c30 (C : Callee) (n : Nat) : Cd V5 := seqK (c30_0 C) (condK c30_1 (c30_2 C) (skipK))
def r30 (v : V5) (S : AW) : R := (V5.casesOn v fun v0 v1 v2 v3 v12 => some (.tuple #[], S))
def g30 (C : Callee) (n : Nat) (args : List Value) (S : AW) : R := c30 C n (V5.mk (argV args 0) (argV args 1) (argV args 2) (argV args 3) (argV args 12)) S fun o v S => EX.casesOn o (r30 v S) (fun _ => none) (r30 v S)
/-! assayer/assayerref9.has -/
def c31_0 (C : Callee) : Cd V6 := fun v S κ => (V6.casesOn v fun v0 v1 v4 v5 v9 v17 => 
  κ .normal (V6.mk v0 v1 (.bool false) v5 v9 v17) S)
def c31_1 (C : Callee) : Cd V6 := fun v S κ => (V6.casesOn v fun v0 v1 v4 v5 v9 v17 => 
  κ .normal (V6.mk v0 v1 v4 (.int .i64 0) v9 v17) S)
def c31_2 (C : Callee) : Cd V6 := fun v S κ => (V6.casesOn v fun v0 v1 v4 v5 v9 v17 => 
  kLen false v0 S fun v18 S18 =>
  kBin .lss v5 v18 S18 fun v19 S19 =>
  κ .normal (V6.mk v0 v1 v4 v5 v19 v17) S19)
def c31_3 : V6 → Value := fun v => (V6.casesOn v fun v0 v1 v4 v5 v9 v17 => v9)
def c31_4 (C : Callee) : Cd V6 := fun v S κ => (V6.casesOn v fun v0 v1 v4 v5 v9 v17 => 
  kIad 1 v0 v5 S fun v18 S18 =>
  kLd none v18 S18 fun v19 S19 =>
  kBin .eql v19 v1 S19 fun v20 S20 =>
  κ .normal (V6.mk v0 v1 v4 v5 v9 v20) S20)
def c31_5 : V6 → Value := fun v => (V6.casesOn v fun v0 v1 v4 v5 v9 v17 => v17)
def c31_6 (C : Callee) : Cd V6 := fun v S κ => (V6.casesOn v fun v0 v1 v4 v5 v9 v17 => 
  κ .normal (V6.mk v0 v1 (.bool true) v5 v9 v17) S)
def c31_7 (C : Callee) : Cd V6 := fun v S κ => (V6.casesOn v fun v0 v1 v4 v5 v9 v17 => 
  kBin .add v5 (.int .i64 1) S fun v18 S18 =>
  κ .normal (V6.mk v0 v1 v4 v18 v9 v17) S18)
def c31_8 (C : Callee) (n : Nat) : Cd V6 := seqK (seqK (c31_2 C) (condK c31_3 (skipK) (exitK 0))) (seqK (blockK 1 (seqK (c31_4 C) (condK c31_5 (seqK (c31_6 C) (retK)) (skipK)))) (c31_7 C))
def c31_9 (C : Callee) : Cd V6 := fun v S κ => (V6.casesOn v fun v0 v1 v4 v5 v9 v17 => 
  κ .normal (V6.mk v0 v1 (.bool false) v5 v9 v17) S)
/-- assayer/assayerref9.has -/
def c31 (C : Callee) (n : Nat) : Cd V6 := seqK (c31_0 C) (seqK (seqK (c31_1 C) (blockK 0 (loopK n (c31_8 C n)))) (seqK (c31_9 C) (retK)))
def r31 (v : V6) (S : AW) : R := (V6.casesOn v fun v0 v1 v4 v5 v9 v17 => some (v4, S))
def g31 (C : Callee) (n : Nat) (args : List Value) (S : AW) : R := c31 C n (V6.mk (argV args 0) (argV args 1) (argV args 4) (argV args 5) (argV args 9) (argV args 17)) S fun o v S => EX.casesOn o (r31 v S) (fun _ => none) (r31 v S)
/-! strings.genSplit -/
def c36_0 (C : Callee) : Cd V13 := fun v S κ => (V13.casesOn v fun v0 v1 v2 v3 v8 v9 v10 v11 v13 v15 v20 v36 v41 => 
  κ .normal (V13.mk v0 v1 v2 v3 (.slice none 0 0) v9 v10 v11 v13 v15 v20 v36 v41) S)
def c36_1 (C : Callee) : Cd V13 := fun v S κ => (V13.casesOn v fun v0 v1 v2 v3 v8 v9 v10 v11 v13 v15 v20 v36 v41 => 
  kBin .eql v3 (.int .i64 0) S fun v42 S42 =>
  κ .normal (V13.mk v0 v1 v2 v3 v8 v9 v10 v11 v42 v15 v20 v36 v41) S42)
def c36_2 : V13 → Value := fun v => (V13.casesOn v fun v0 v1 v2 v3 v8 v9 v10 v11 v13 v15 v20 v36 v41 => v13)
def c36_3 (C : Callee) : Cd V13 := fun v S κ => (V13.casesOn v fun v0 v1 v2 v3 v8 v9 v10 v11 v13 v15 v20 v36 v41 => 
  κ .normal (V13.mk v0 v1 v2 v3 (.slice none 0 0) v9 v10 v11 v13 v15 v20 v36 v41) S)
def c36_4 (C : Callee) : Cd V13 := fun v S κ => (V13.casesOn v fun v0 v1 v2 v3 v8 v9 v10 v11 v13 v15 v20 v36 v41 => 
  kBin .eql v1 (.string ⟨#[]⟩) S fun v42 S42 =>
  κ .normal (V13.mk v0 v1 v2 v3 v8 v9 v10 v11 v13 v42 v20 v36 v41) S42)
def c36_5 : V13 → Value := fun v => (V13.casesOn v fun v0 v1 v2 v3 v8 v9 v10 v11 v13 v15 v20 v36 v41 => v15)
def c36_6 (C : Callee) : Cd V13 := fun v S κ => (V13.casesOn v fun v0 v1 v2 v3 v8 v9 v10 v11 v13 v15 v20 v36 v41 => 
  kCall C 52 [v0, v3] S fun v42 S42 =>
  κ .normal (V13.mk v0 v1 v2 v3 v42 v9 v10 v11 v13 v15 v20 v36 v41) S42)
def c36_7 (C : Callee) : Cd V13 := fun v S κ => (V13.casesOn v fun v0 v1 v2 v3 v8 v9 v10 v11 v13 v15 v20 v36 v41 => 
  kBin .lss v3 (.int .i64 0) S fun v42 S42 =>
  κ .normal (V13.mk v0 v1 v2 v3 v8 v9 v10 v11 v13 v15 v42 v36 v41) S42)
def c36_8 : V13 → Value := fun v => (V13.casesOn v fun v0 v1 v2 v3 v8 v9 v10 v11 v13 v15 v20 v36 v41 => v20)
def c36_9 (C : Callee) : Cd V13 := fun v S κ => (V13.casesOn v fun v0 v1 v2 v3 v8 v9 v10 v11 v13 v15 v20 v36 v41 => 
  kCall C 53 [v0, v1] S fun v42 S42 =>
  kBin .add v42 (.int .i64 1) S42 fun v43 S43 =>
  κ .normal (V13.mk v0 v1 v2 v43 v8 v9 v10 v11 v13 v15 v20 v36 v41) S43)
def c36_10 (C : Callee) : Cd V13 := fun v S κ => (V13.casesOn v fun v0 v1 v2 v3 v8 v9 v10 v11 v13 v15 v20 v36 v41 => 
  kLen true v0 S fun v42 S42 =>
  kBin .add v42 (.int .i64 1) S42 fun v43 S43 =>
  kO (mmV false [v3, v43]) S43 fun v44 S44 =>
  κ .normal (V13.mk v0 v1 v2 v44 v8 v9 v10 v11 v13 v15 v20 v36 v41) S44)
def c36_11 (C : Callee) : Cd V13 := fun v S κ => (V13.casesOn v fun v0 v1 v2 v3 v8 v9 v10 v11 v13 v15 v20 v36 v41 => 
  kMks 9 1 16 [.string ⟨#[]⟩] v3 v3 S fun v42 S42 =>
  κ .normal (V13.mk v0 v1 v2 v3 v8 v42 v10 v11 v13 v15 v20 v36 v41) S42)
def c36_12 (C : Callee) : Cd V13 := fun v S κ => (V13.casesOn v fun v0 v1 v2 v3 v8 v9 v10 v11 v13 v15 v20 v36 v41 => 
  kBin .sub v3 (.int .i64 1) S fun v42 S42 =>
  κ .normal (V13.mk v0 v1 v2 v42 v8 v9 v10 v11 v13 v15 v20 v36 v41) S42)
def c36_13 (C : Callee) : Cd V13 := fun v S κ => (V13.casesOn v fun v0 v1 v2 v3 v8 v9 v10 v11 v13 v15 v20 v36 v41 => 
  κ .normal (V13.mk v0 v1 v2 v3 v8 v9 (.int .i64 0) v11 v13 v15 v20 v36 v41) S)
def c36_14 (C : Callee) : Cd V13 := fun v S κ => (V13.casesOn v fun v0 v1 v2 v3 v8 v9 v10 v11 v13 v15 v20 v36 v41 => 
  kBin .lss v10 v3 S fun v42 S42 =>
  κ .normal (V13.mk v0 v1 v2 v3 v8 v9 v10 v11 v13 v15 v20 v42 v41) S42)
def c36_15 : V13 → Value := fun v => (V13.casesOn v fun v0 v1 v2 v3 v8 v9 v10 v11 v13 v15 v20 v36 v41 => v36)
def c36_16 (C : Callee) : Cd V13 := fun v S κ => (V13.casesOn v fun v0 v1 v2 v3 v8 v9 v10 v11 v13 v15 v20 v36 v41 => 
  kCall C 54 [v0, v1] S fun v42 S42 =>
  κ .normal (V13.mk v0 v1 v2 v3 v8 v9 v10 v42 v13 v15 v20 v36 v41) S42)
def c36_17 (C : Callee) : Cd V13 := fun v S κ => (V13.casesOn v fun v0 v1 v2 v3 v8 v9 v10 v11 v13 v15 v20 v36 v41 => 
  kBin .lss v11 (.int .i64 0) S fun v42 S42 =>
  κ .normal (V13.mk v0 v1 v2 v3 v8 v9 v10 v11 v13 v15 v20 v36 v42) S42)
def c36_18 : V13 → Value := fun v => (V13.casesOn v fun v0 v1 v2 v3 v8 v9 v10 v11 v13 v15 v20 v36 v41 => v41)
def c36_19 (C : Callee) : Cd V13 := fun v S κ => (V13.casesOn v fun v0 v1 v2 v3 v8 v9 v10 v11 v13 v15 v20 v36 v41 => 
  kBin .add v11 v2 S fun v42 S42 =>
  kSlS v0 none (some v42) S42 fun v43 S43 =>
  kIad 1 v9 v10 S43 fun v44 S44 =>
  kSt 1 v44 v43 S44 fun v45 S45 =>
  κ .normal (V13.mk v0 v1 v2 v3 v8 v9 v10 v11 v13 v15 v20 v36 v41) S45)
def c36_20 (C : Callee) : Cd V13 := fun v S κ => (V13.casesOn v fun v0 v1 v2 v3 v8 v9 v10 v11 v13 v15 v20 v36 v41 => 
  kLen true v1 S fun v42 S42 =>
  kBin .add v11 v42 S42 fun v43 S43 =>
  kSlS v0 (some v43) none S43 fun v44 S44 =>
  κ .normal (V13.mk v44 v1 v2 v3 v8 v9 v10 v11 v13 v15 v20 v36 v41) S44)
def c36_21 (C : Callee) : Cd V13 := fun v S κ => (V13.casesOn v fun v0 v1 v2 v3 v8 v9 v10 v11 v13 v15 v20 v36 v41 => 
  kBin .add v10 (.int .i64 1) S fun v42 S42 =>
  κ .normal (V13.mk v0 v1 v2 v3 v8 v9 v42 v11 v13 v15 v20 v36 v41) S42)
def c36_22 (C : Callee) (n : Nat) : Cd V13 := seqK (seqK (c36_14 C) (condK c36_15 (skipK) (exitK 0))) (blockK 1 (seqK (c36_16 C) (seqK (seqK (c36_17 C) (condK c36_18 (exitK 0) (skipK))) (seqK (c36_19 C) (seqK (c36_20 C) (c36_21 C))))))
def c36_23 (C : Callee) : Cd V13 := fun v S κ => (V13.casesOn v fun v0 v1 v2 v3 v8 v9 v10 v11 v13 v15 v20 v36 v41 => 
  kIad 1 v9 v10 S fun v42 S42 =>
  kSt 1 v42 v0 S42 fun v43 S43 =>
  κ .normal (V13.mk v0 v1 v2 v3 v8 v9 v10 v11 v13 v15 v20 v36 v41) S43)
def c36_24 (C : Callee) : Cd V13 := fun v S κ => (V13.casesOn v fun v0 v1 v2 v3 v8 v9 v10 v11 v13 v15 v20 v36 v41 => 
  kBin .add v10 (.int .i64 1) S fun v42 S42 =>
  kSlV C 1 v9 none (some v42) none S42 fun v43 S43 =>
  κ .normal (V13.mk v0 v1 v2 v3 v43 v9 v10 v11 v13 v15 v20 v36 v41) S43)
/-- strings.genSplit -/
def c36 (C : Callee) (n : Nat) : Cd V13 := seqK (c36_0 C) (seqK (seqK (c36_1 C) (condK c36_2 (seqK (c36_3 C) (retK)) (skipK))) (seqK (seqK (c36_4 C) (condK c36_5 (seqK (c36_6 C) (retK)) (skipK))) (seqK (seqK (c36_7 C) (condK c36_8 (c36_9 C) (skipK))) (seqK (c36_10 C) (seqK (c36_11 C) (seqK (c36_12 C) (seqK (c36_13 C) (seqK (blockK 0 (loopK n (c36_22 C n))) (seqK (c36_23 C) (seqK (c36_24 C) (retK)))))))))))
def r36 (v : V13) (S : AW) : R := (V13.casesOn v fun v0 v1 v2 v3 v8 v9 v10 v11 v13 v15 v20 v36 v41 => some (v8, S))
def g36 (C : Callee) (n : Nat) (args : List Value) (S : AW) : R := c36 C n (V13.mk (argV args 0) (argV args 1) (argV args 2) (argV args 3) (argV args 8) (argV args 9) (argV args 10) (argV args 11) (argV args 13) (argV args 15) (argV args 20) (argV args 36) (argV args 41)) S fun o v S => EX.casesOn o (r36 v S) (fun _ => none) (r36 v S)
/-! assayer/scope.sees -/
def c37_0 (C : Callee) : Cd V7 := fun v S κ => (V7.casesOn v fun v0 v1 v2 v3 v6 v7 v8 => 
  kBox 37 2 v0 S fun v9 S9 =>
  κ .normal (V7.mk v0 v1 v2 v9 (.bool false) v7 v8) S9)
def c37_1 (C : Callee) : Cd V7 := fun v S κ => (V7.casesOn v fun v0 v1 v2 v3 v6 v7 v8 => 
  kLd (some 2) v3 S fun v9 S9 =>
  kCall C 55 [v9, v1] S9 fun v10 S10 =>
  kExt 0 v10 S10 fun v11 S11 =>
  kExt 1 v10 S11 fun v12 S12 =>
  kNew 42 3 [.slice none 0 0, .slice none 0 0, .slice none 0 0] S12 fun v13 S13 =>
  kSt 3 v13 v11 S13 fun v14 S14 =>
  κ .normal (V7.mk v0 v1 v2 v3 v6 v13 v12) S14)
def c37_2 (C : Callee) : Cd V7 := fun v S κ => (V7.casesOn v fun v0 v1 v2 v3 v6 v7 v8 => 
  bl v8 fun b => cond b
   (kBin .eql v2 v1 S fun v9 S9 =>
   bl v9 fun b => cond b
    (κ .normal (V7.mk v0 v1 v2 v3 (.bool true) v7 v8) S9)
    (kFad 0 v7 S9 fun v10 S10 =>
    kLd none v10 S10 fun v11 S11 =>
    kCall C 56 [v11, v2] S11 fun v12 S12 =>
    κ .normal (V7.mk v0 v1 v2 v3 v12 v7 v8) S12))
   (κ .normal (V7.mk v0 v1 v2 v3 (.bool false) v7 v8) S))
/-- assayer/scope.sees -/
def c37 (C : Callee) (n : Nat) : Cd V7 := seqK (c37_0 C) (seqK (c37_1 C) (seqK (c37_2 C) (retK)))
def r37 (v : V7) (S : AW) : R := (V7.casesOn v fun v0 v1 v2 v3 v6 v7 v8 => some (v6, S))
def g37 (C : Callee) (n : Nat) (args : List Value) (S : AW) : R := c37 C n (V7.mk (argV args 0) (argV args 1) (argV args 2) (argV args 3) (argV args 6) (argV args 7) (argV args 8)) S fun o v S => EX.casesOn o (r37 v S) (fun _ => none) (r37 v S)
/-! assayer/scope.of -/
def c38_0 (C : Callee) : Cd V14 := fun v S κ => (V14.casesOn v fun v0 v1 v2 v4 v5 v6 v9 v10 v12 v21 v22 v23 v24 v38 => 
  kBox 37 2 v0 S fun v39 S39 =>
  κ .normal (V14.mk v0 v1 v39 (.map none) v5 v6 v9 v10 v12 v21 v22 v23 v24 v38) S39)
def c38_1 (C : Callee) : Cd V14 := fun v S κ => (V14.casesOn v fun v0 v1 v2 v4 v5 v6 v9 v10 v12 v21 v22 v23 v24 v38 => 
  kMkm none S fun v39 S39 =>
  κ .normal (V14.mk v0 v1 v2 v4 v39 v6 v9 v10 v12 v21 v22 v23 v24 v38) S39)
def c38_2 (C : Callee) : Cd V14 := fun v S κ => (V14.casesOn v fun v0 v1 v2 v4 v5 v6 v9 v10 v12 v21 v22 v23 v24 v38 => 
  kLd (some 2) v2 S fun v39 S39 =>
  kCall C 55 [v39, v1] S39 fun v40 S40 =>
  kExt 0 v40 S40 fun v41 S41 =>
  kExt 1 v40 S41 fun v42 S42 =>
  kNew 42 3 [.slice none 0 0, .slice none 0 0, .slice none 0 0] S42 fun v43 S43 =>
  kSt 3 v43 v41 S43 fun v44 S44 =>
  κ .normal (V14.mk v0 v1 v2 v4 v5 v43 v9 v10 v12 v21 v22 v23 v24 v38) S44)
def c38_3 (C : Callee) : Cd V14 := fun v S κ => (V14.casesOn v fun v0 v1 v2 v4 v5 v6 v9 v10 v12 v21 v22 v23 v24 v38 => 
  kFad 2 v6 S fun v39 S39 =>
  kLd none v39 S39 fun v40 S40 =>
  kLen false v40 S40 fun v41 S41 =>
  κ .normal (V14.mk v0 v1 v2 v4 v5 v6 v9 v10 v12 v40 v41 (.int .i64 0) v24 v38) S41)
def c38_4 (C : Callee) : Cd V14 := fun v S κ => (V14.casesOn v fun v0 v1 v2 v4 v5 v6 v9 v10 v12 v21 v22 v23 v24 v38 => 
  kBin .lss v23 v22 S fun v39 S39 =>
  κ .normal (V14.mk v0 v1 v2 v4 v5 v6 v9 v10 v12 v21 v22 v23 v39 v38) S39)
def c38_5 : V14 → Value := fun v => (V14.casesOn v fun v0 v1 v2 v4 v5 v6 v9 v10 v12 v21 v22 v23 v24 v38 => v24)
def c38_6 (C : Callee) : Cd V14 := fun v S κ => (V14.casesOn v fun v0 v1 v2 v4 v5 v6 v9 v10 v12 v21 v22 v23 v24 v38 => 
  kIad 12 v21 v23 S fun v39 S39 =>
  kLd (some 12) v39 S39 fun v40 S40 =>
  kNew 51 12 [.int .i64 0, .string ⟨#[]⟩, .string ⟨#[]⟩, .int .i64 0, .int .i64 0, .int .u64 0, .string ⟨#[]⟩, .slice none 0 0, .slice none 0 0, .slice none 0 0, .string ⟨#[]⟩, .slice none 0 0] S40 fun v41 S41 =>
  kSt 12 v41 v40 S41 fun v42 S42 =>
  κ .normal (V14.mk v0 v1 v2 v4 v5 v6 v41 v10 v12 v21 v22 v23 v24 v38) S42)
def c38_7 (C : Callee) : Cd V14 := fun v S κ => (V14.casesOn v fun v0 v1 v2 v4 v5 v6 v9 v10 v12 v21 v22 v23 v24 v38 => 
  kFad 1 v9 S fun v39 S39 =>
  kLd none v39 S39 fun v40 S40 =>
  kBuild [.string ⟨#[]⟩, .string ⟨#[]⟩] [(0, 1, v1), (1, 1, v40)] S40 fun v41 S41 =>
  kNew 76 2 [.string ⟨#[]⟩, .string ⟨#[]⟩] S41 fun v42 S42 =>
  kSt 2 v42 v41 S42 fun v43 S43 =>
  κ .normal (V14.mk v0 v1 v2 v4 v5 v6 v9 v42 v12 v21 v22 v23 v24 v38) S43)
def c38_8 (C : Callee) : Cd V14 := fun v S κ => (V14.casesOn v fun v0 v1 v2 v4 v5 v6 v9 v10 v12 v21 v22 v23 v24 v38 => 
  kLd (some 2) v10 S fun v39 S39 =>
  kMlk (.agg [.str, .str]) (.agg #[.int .i64 0, .string ⟨#[]⟩, .string ⟨#[]⟩, .int .i64 0, .int .i64 0, .int .u64 0, .string ⟨#[]⟩, .slice none 0 0, .slice none 0 0, .slice none 0 0, .string ⟨#[]⟩, .slice none 0 0]) true v5 v39 S39 fun v40 S40 =>
  kExt 0 v40 S40 fun v41 S41 =>
  kExt 1 v40 S41 fun v42 S42 =>
  kNew 51 12 [.int .i64 0, .string ⟨#[]⟩, .string ⟨#[]⟩, .int .i64 0, .int .i64 0, .int .u64 0, .string ⟨#[]⟩, .slice none 0 0, .slice none 0 0, .slice none 0 0, .string ⟨#[]⟩, .slice none 0 0] S42 fun v43 S43 =>
  kSt 12 v43 v41 S43 fun v44 S44 =>
  κ .normal (V14.mk v0 v1 v2 v4 v5 v6 v9 v10 v42 v21 v22 v23 v24 v38) S44)
def c38_9 (C : Callee) : Cd V14 := fun v S κ => (V14.casesOn v fun v0 v1 v2 v4 v5 v6 v9 v10 v12 v21 v22 v23 v24 v38 => 
  kUn .not v12 S fun v39 S39 =>
  κ .normal (V14.mk v0 v1 v2 v4 v5 v6 v9 v10 v12 v21 v22 v23 v24 v39) S39)
def c38_10 : V14 → Value := fun v => (V14.casesOn v fun v0 v1 v2 v4 v5 v6 v9 v10 v12 v21 v22 v23 v24 v38 => v38)
def c38_11 (C : Callee) : Cd V14 := fun v S κ => (V14.casesOn v fun v0 v1 v2 v4 v5 v6 v9 v10 v12 v21 v22 v23 v24 v38 => 
  kLd (some 2) v10 S fun v39 S39 =>
  kLd (some 12) v9 S39 fun v40 S40 =>
  kMup (.agg [.str, .str]) v5 v39 v40 S40 fun v41 S41 =>
  κ .normal (V14.mk v0 v1 v2 v4 v5 v6 v9 v10 v12 v21 v22 v23 v24 v38) S41)
def c38_12 (C : Callee) : Cd V14 := fun v S κ => (V14.casesOn v fun v0 v1 v2 v4 v5 v6 v9 v10 v12 v21 v22 v23 v24 v38 => 
  kBin .add v23 (.int .i64 1) S fun v39 S39 =>
  κ .normal (V14.mk v0 v1 v2 v4 v5 v6 v9 v10 v12 v21 v22 v39 v24 v38) S39)
def c38_13 (C : Callee) (n : Nat) : Cd V14 := seqK (c38_4 C) (seqK (condK c38_5 (skipK) (exitK 0)) (seqK (blockK 1 (seqK (c38_6 C) (seqK (c38_7 C) (seqK (c38_8 C) (seqK (c38_9 C) (condK c38_10 (c38_11 C) (skipK))))))) (c38_12 C)))
def c38_14 (C : Callee) : Cd V14 := fun v S κ => (V14.casesOn v fun v0 v1 v2 v4 v5 v6 v9 v10 v12 v21 v22 v23 v24 v38 => 
  κ .normal (V14.mk v0 v1 v2 v5 v5 v6 v9 v10 v12 v21 v22 v23 v24 v38) S)
/-- assayer/scope.of -/
def c38 (C : Callee) (n : Nat) : Cd V14 := seqK (c38_0 C) (seqK (c38_1 C) (seqK (c38_2 C) (seqK (seqK (c38_3 C) (blockK 0 (loopK n (c38_13 C n)))) (seqK (c38_14 C) (retK)))))
def r38 (v : V14) (S : AW) : R := (V14.casesOn v fun v0 v1 v2 v4 v5 v6 v9 v10 v12 v21 v22 v23 v24 v38 => some (v4, S))
def g38 (C : Callee) (n : Nat) (args : List Value) (S : AW) : R := c38 C n (V14.mk (argV args 0) (argV args 1) (argV args 2) (argV args 4) (argV args 5) (argV args 6) (argV args 9) (argV args 10) (argV args 12) (argV args 21) (argV args 22) (argV args 23) (argV args 24) (argV args 38)) S fun o v S => EX.casesOn o (r38 v S) (fun _ => none) (r38 v S)
/-! slices.ContainsFunc[[]assayer/api.Member,assayer/api.Member] -/
def c39_0 (C : Callee) : Cd V3 := fun v S κ => (V3.casesOn v fun v0 v1 v4 => 
  κ .normal (V3.mk v0 v1 (.bool false)) S)
def c39_1 (C : Callee) : Cd V3 := fun v S κ => (V3.casesOn v fun v0 v1 v4 => 
  kCall C 57 [v0, v1] S fun v5 S5 =>
  kBin .geq v5 (.int .i64 0) S5 fun v6 S6 =>
  κ .normal (V3.mk v0 v1 v6) S6)
/-- slices.ContainsFunc[[]assayer/api.Member,assayer/api.Member] -/
def c39 (C : Callee) (n : Nat) : Cd V3 := seqK (c39_0 C) (seqK (c39_1 C) (retK))
def r39 (v : V3) (S : AW) : R := (V3.casesOn v fun v0 v1 v4 => some (v4, S))
def g39 (C : Callee) (n : Nat) (args : List Value) (S : AW) : R := c39 C n (V3.mk (argV args 0) (argV args 1) (argV args 4)) S fun o v S => EX.casesOn o (r39 v S) (fun _ => none) (r39 v S)
/-! assayer/scope.member$1 -/
def c40_0 (C : Callee) : Cd V4 := fun v S κ => (V4.casesOn v fun v0 v1 v2 v3 => 
  kBox 83 3 v0 S fun v4 S4 =>
  κ .normal (V4.mk v0 v1 v4 (.bool false)) S4)
def c40_1 (C : Callee) : Cd V4 := fun v S κ => (V4.casesOn v fun v0 v1 v2 v3 => 
  kFad 0 v2 S fun v4 S4 =>
  kLd none v4 S4 fun v5 S5 =>
  kLd none v1 S5 fun v6 S6 =>
  kBin .eql v5 v6 S6 fun v7 S7 =>
  κ .normal (V4.mk v0 v1 v2 v7) S7)
/-- assayer/scope.member$1 -/
def c40 (C : Callee) (n : Nat) : Cd V4 := seqK (c40_0 C) (seqK (c40_1 C) (retK))
def r40 (v : V4) (S : AW) : R := (V4.casesOn v fun v0 v1 v2 v3 => some (v3, S))
def g40 (C : Callee) (n : Nat) (args : List Value) (S : AW) : R := c40 C n (V4.mk (argV args 0) (argV args 1) (argV args 2) (argV args 3)) S fun o v S => EX.casesOn o (r40 v S) (fun _ => none) (r40 v S)
/-! assayer/assayerref5.base -/
def c41_0 (C : Callee) : Cd V14 := fun v S κ => (V14.casesOn v fun v0 v2 v3 v4 v6 v8 v10 v12 v14 v16 v18 v20 v22 v24 => 
  κ .normal (V14.mk v0 (.int .i64 0) v3 v4 v6 v8 v10 v12 v14 v16 v18 v20 v22 v24) S)
def c41_1 (C : Callee) : Cd V14 := fun v S κ => (V14.casesOn v fun v0 v2 v3 v4 v6 v8 v10 v12 v14 v16 v18 v20 v22 v24 => 
  κ .normal (V14.mk v0 v2 v0 v4 v6 v8 v10 v12 v14 v16 v18 v20 v22 v24) S)
def c41_2 (C : Callee) : Cd V14 := fun v S κ => (V14.casesOn v fun v0 v2 v3 v4 v6 v8 v10 v12 v14 v16 v18 v20 v22 v24 => 
  kBin .eql v3 (.string ⟨#[98, 111, 111, 108]⟩) S fun v25 S25 =>
  κ .normal (V14.mk v0 v2 v3 v25 v6 v8 v10 v12 v14 v16 v18 v20 v22 v24) S25)
def c41_3 : V14 → Value := fun v => (V14.casesOn v fun v0 v2 v3 v4 v6 v8 v10 v12 v14 v16 v18 v20 v22 v24 => v4)
def c41_4 (C : Callee) : Cd V14 := fun v S κ => (V14.casesOn v fun v0 v2 v3 v4 v6 v8 v10 v12 v14 v16 v18 v20 v22 v24 => 
  κ .normal (V14.mk v0 (.int .i64 2) v3 v4 v6 v8 v10 v12 v14 v16 v18 v20 v22 v24) S)
def c41_5 (C : Callee) : Cd V14 := fun v S κ => (V14.casesOn v fun v0 v2 v3 v4 v6 v8 v10 v12 v14 v16 v18 v20 v22 v24 => 
  kBin .eql v3 (.string ⟨#[105, 56]⟩) S fun v25 S25 =>
  κ .normal (V14.mk v0 v2 v3 v4 v25 v8 v10 v12 v14 v16 v18 v20 v22 v24) S25)
def c41_6 : V14 → Value := fun v => (V14.casesOn v fun v0 v2 v3 v4 v6 v8 v10 v12 v14 v16 v18 v20 v22 v24 => v6)
def c41_7 (C : Callee) : Cd V14 := fun v S κ => (V14.casesOn v fun v0 v2 v3 v4 v6 v8 v10 v12 v14 v16 v18 v20 v22 v24 => 
  κ .normal (V14.mk v0 (.int .i64 3) v3 v4 v6 v8 v10 v12 v14 v16 v18 v20 v22 v24) S)
def c41_8 (C : Callee) : Cd V14 := fun v S κ => (V14.casesOn v fun v0 v2 v3 v4 v6 v8 v10 v12 v14 v16 v18 v20 v22 v24 => 
  kBin .eql v3 (.string ⟨#[105, 49, 54]⟩) S fun v25 S25 =>
  κ .normal (V14.mk v0 v2 v3 v4 v6 v25 v10 v12 v14 v16 v18 v20 v22 v24) S25)
def c41_9 : V14 → Value := fun v => (V14.casesOn v fun v0 v2 v3 v4 v6 v8 v10 v12 v14 v16 v18 v20 v22 v24 => v8)
def c41_10 (C : Callee) : Cd V14 := fun v S κ => (V14.casesOn v fun v0 v2 v3 v4 v6 v8 v10 v12 v14 v16 v18 v20 v22 v24 => 
  κ .normal (V14.mk v0 (.int .i64 6) v3 v4 v6 v8 v10 v12 v14 v16 v18 v20 v22 v24) S)
def c41_11 (C : Callee) : Cd V14 := fun v S κ => (V14.casesOn v fun v0 v2 v3 v4 v6 v8 v10 v12 v14 v16 v18 v20 v22 v24 => 
  kBin .eql v3 (.string ⟨#[105, 51, 50]⟩) S fun v25 S25 =>
  κ .normal (V14.mk v0 v2 v3 v4 v6 v8 v25 v12 v14 v16 v18 v20 v22 v24) S25)
def c41_12 : V14 → Value := fun v => (V14.casesOn v fun v0 v2 v3 v4 v6 v8 v10 v12 v14 v16 v18 v20 v22 v24 => v10)
def c41_13 (C : Callee) : Cd V14 := fun v S κ => (V14.casesOn v fun v0 v2 v3 v4 v6 v8 v10 v12 v14 v16 v18 v20 v22 v24 => 
  κ .normal (V14.mk v0 (.int .i64 8) v3 v4 v6 v8 v10 v12 v14 v16 v18 v20 v22 v24) S)
def c41_14 (C : Callee) : Cd V14 := fun v S κ => (V14.casesOn v fun v0 v2 v3 v4 v6 v8 v10 v12 v14 v16 v18 v20 v22 v24 => 
  kBin .eql v3 (.string ⟨#[105, 54, 52]⟩) S fun v25 S25 =>
  κ .normal (V14.mk v0 v2 v3 v4 v6 v8 v10 v25 v14 v16 v18 v20 v22 v24) S25)
def c41_15 : V14 → Value := fun v => (V14.casesOn v fun v0 v2 v3 v4 v6 v8 v10 v12 v14 v16 v18 v20 v22 v24 => v12)
def c41_16 (C : Callee) : Cd V14 := fun v S κ => (V14.casesOn v fun v0 v2 v3 v4 v6 v8 v10 v12 v14 v16 v18 v20 v22 v24 => 
  κ .normal (V14.mk v0 (.int .i64 10) v3 v4 v6 v8 v10 v12 v14 v16 v18 v20 v22 v24) S)
def c41_17 (C : Callee) : Cd V14 := fun v S κ => (V14.casesOn v fun v0 v2 v3 v4 v6 v8 v10 v12 v14 v16 v18 v20 v22 v24 => 
  kBin .eql v3 (.string ⟨#[100, 111, 117, 98, 108, 101]⟩) S fun v25 S25 =>
  κ .normal (V14.mk v0 v2 v3 v4 v6 v8 v10 v12 v25 v16 v18 v20 v22 v24) S25)
def c41_18 : V14 → Value := fun v => (V14.casesOn v fun v0 v2 v3 v4 v6 v8 v10 v12 v14 v16 v18 v20 v22 v24 => v14)
def c41_19 (C : Callee) : Cd V14 := fun v S κ => (V14.casesOn v fun v0 v2 v3 v4 v6 v8 v10 v12 v14 v16 v18 v20 v22 v24 => 
  κ .normal (V14.mk v0 (.int .i64 4) v3 v4 v6 v8 v10 v12 v14 v16 v18 v20 v22 v24) S)
def c41_20 (C : Callee) : Cd V14 := fun v S κ => (V14.casesOn v fun v0 v2 v3 v4 v6 v8 v10 v12 v14 v16 v18 v20 v22 v24 => 
  kBin .eql v3 (.string ⟨#[115, 116, 114, 105, 110, 103]⟩) S fun v25 S25 =>
  κ .normal (V14.mk v0 v2 v3 v4 v6 v8 v10 v12 v14 v25 v18 v20 v22 v24) S25)
def c41_21 : V14 → Value := fun v => (V14.casesOn v fun v0 v2 v3 v4 v6 v8 v10 v12 v14 v16 v18 v20 v22 v24 => v16)
def c41_22 (C : Callee) : Cd V14 := fun v S κ => (V14.casesOn v fun v0 v2 v3 v4 v6 v8 v10 v12 v14 v16 v18 v20 v22 v24 => 
  κ .normal (V14.mk v0 (.int .i64 11) v3 v4 v6 v8 v10 v12 v14 v16 v18 v20 v22 v24) S)
def c41_23 (C : Callee) : Cd V14 := fun v S κ => (V14.casesOn v fun v0 v2 v3 v4 v6 v8 v10 v12 v14 v16 v18 v20 v22 v24 => 
  kBin .eql v3 (.string ⟨#[98, 105, 110, 97, 114, 121]⟩) S fun v25 S25 =>
  κ .normal (V14.mk v0 v2 v3 v4 v6 v8 v10 v12 v14 v16 v25 v20 v22 v24) S25)
def c41_24 : V14 → Value := fun v => (V14.casesOn v fun v0 v2 v3 v4 v6 v8 v10 v12 v14 v16 v18 v20 v22 v24 => v18)
def c41_25 (C : Callee) : Cd V14 := fun v S κ => (V14.casesOn v fun v0 v2 v3 v4 v6 v8 v10 v12 v14 v16 v18 v20 v22 v24 => 
  κ .normal (V14.mk v0 (.int .i64 16) v3 v4 v6 v8 v10 v12 v14 v16 v18 v20 v22 v24) S)
def c41_26 (C : Callee) : Cd V14 := fun v S κ => (V14.casesOn v fun v0 v2 v3 v4 v6 v8 v10 v12 v14 v16 v18 v20 v22 v24 => 
  kBin .eql v3 (.string ⟨#[108, 105, 115, 116]⟩) S fun v25 S25 =>
  κ .normal (V14.mk v0 v2 v3 v4 v6 v8 v10 v12 v14 v16 v18 v25 v22 v24) S25)
def c41_27 : V14 → Value := fun v => (V14.casesOn v fun v0 v2 v3 v4 v6 v8 v10 v12 v14 v16 v18 v20 v22 v24 => v20)
def c41_28 (C : Callee) : Cd V14 := fun v S κ => (V14.casesOn v fun v0 v2 v3 v4 v6 v8 v10 v12 v14 v16 v18 v20 v22 v24 => 
  κ .normal (V14.mk v0 (.int .i64 15) v3 v4 v6 v8 v10 v12 v14 v16 v18 v20 v22 v24) S)
def c41_29 (C : Callee) : Cd V14 := fun v S κ => (V14.casesOn v fun v0 v2 v3 v4 v6 v8 v10 v12 v14 v16 v18 v20 v22 v24 => 
  kBin .eql v3 (.string ⟨#[115, 101, 116]⟩) S fun v25 S25 =>
  κ .normal (V14.mk v0 v2 v3 v4 v6 v8 v10 v12 v14 v16 v18 v20 v25 v24) S25)
def c41_30 : V14 → Value := fun v => (V14.casesOn v fun v0 v2 v3 v4 v6 v8 v10 v12 v14 v16 v18 v20 v22 v24 => v22)
def c41_31 (C : Callee) : Cd V14 := fun v S κ => (V14.casesOn v fun v0 v2 v3 v4 v6 v8 v10 v12 v14 v16 v18 v20 v22 v24 => 
  κ .normal (V14.mk v0 (.int .i64 14) v3 v4 v6 v8 v10 v12 v14 v16 v18 v20 v22 v24) S)
def c41_32 (C : Callee) : Cd V14 := fun v S κ => (V14.casesOn v fun v0 v2 v3 v4 v6 v8 v10 v12 v14 v16 v18 v20 v22 v24 => 
  kBin .eql v3 (.string ⟨#[109, 97, 112]⟩) S fun v25 S25 =>
  κ .normal (V14.mk v0 v2 v3 v4 v6 v8 v10 v12 v14 v16 v18 v20 v22 v25) S25)
def c41_33 : V14 → Value := fun v => (V14.casesOn v fun v0 v2 v3 v4 v6 v8 v10 v12 v14 v16 v18 v20 v22 v24 => v24)
def c41_34 (C : Callee) : Cd V14 := fun v S κ => (V14.casesOn v fun v0 v2 v3 v4 v6 v8 v10 v12 v14 v16 v18 v20 v22 v24 => 
  κ .normal (V14.mk v0 (.int .i64 13) v3 v4 v6 v8 v10 v12 v14 v16 v18 v20 v22 v24) S)
def c41_35 (C : Callee) : Cd V14 := fun v S κ => (V14.casesOn v fun v0 v2 v3 v4 v6 v8 v10 v12 v14 v16 v18 v20 v22 v24 => 
  κ .normal (V14.mk v0 (.int .i64 0) v3 v4 v6 v8 v10 v12 v14 v16 v18 v20 v22 v24) S)
/-- assayer/assayerref5.base -/
def c41 (C : Callee) (n : Nat) : Cd V14 := seqK (c41_0 C) (seqK (seqK (c41_1 C) (blockK 0 (seqK (c41_2 C) (condK c41_3 (seqK (c41_4 C) (retK)) (seqK (c41_5 C) (condK c41_6 (seqK (c41_7 C) (retK)) (seqK (c41_8 C) (condK c41_9 (seqK (c41_10 C) (retK)) (seqK (c41_11 C) (condK c41_12 (seqK (c41_13 C) (retK)) (seqK (c41_14 C) (condK c41_15 (seqK (c41_16 C) (retK)) (seqK (c41_17 C) (condK c41_18 (seqK (c41_19 C) (retK)) (seqK (c41_20 C) (condK c41_21 (seqK (c41_22 C) (retK)) (seqK (c41_23 C) (condK c41_24 (seqK (c41_25 C) (retK)) (seqK (c41_26 C) (condK c41_27 (seqK (c41_28 C) (retK)) (seqK (c41_29 C) (condK c41_30 (seqK (c41_31 C) (retK)) (seqK (c41_32 C) (condK c41_33 (seqK (c41_34 C) (retK)) (skipK))))))))))))))))))))))))) (seqK (c41_35 C) (retK)))
def r41 (v : V14) (S : AW) : R := (V14.casesOn v fun v0 v2 v3 v4 v6 v8 v10 v12 v14 v16 v18 v20 v22 v24 => some (v2, S))
def g41 (C : Callee) (n : Nat) (args : List Value) (S : AW) : R := c41 C n (V14.mk (argV args 0) (argV args 2) (argV args 3) (argV args 4) (argV args 6) (argV args 8) (argV args 10) (argV args 12) (argV args 14) (argV args 16) (argV args 18) (argV args 20) (argV args 22) (argV args 24)) S fun o v S => EX.casesOn o (r41 v S) (fun _ => none) (r41 v S)
/-! assayer/assayerref5.Lex -/
def c42_0 (C : Callee) : Cd V11 := fun v S κ => (V11.casesOn v fun v0 v2 v3 v4 v5 v6 v7 v10 v20 v35 v50 => 
  κ .normal (V11.mk v0 (.slice none 0 0) (.int .i64 0) (.int .i64 0) v5 v6 v7 v10 v20 v35 v50) S)
def c42_1 (C : Callee) : Cd V11 := fun v S κ => (V11.casesOn v fun v0 v2 v3 v4 v5 v6 v7 v10 v20 v35 v50 => 
  kLen true v0 S fun v51 S51 =>
  kBin .gtr v51 (.int .i64 2000) S51 fun v52 S52 =>
  κ .normal (V11.mk v0 v2 v3 v4 v5 v6 v7 v52 v20 v35 v50) S52)
def c42_2 : V11 → Value := fun v => (V11.casesOn v fun v0 v2 v3 v4 v5 v6 v7 v10 v20 v35 v50 => v10)
def c42_3 (C : Callee) : Cd V11 := fun v S κ => (V11.casesOn v fun v0 v2 v3 v4 v5 v6 v7 v10 v20 v35 v50 => 
  κ .normal (V11.mk v0 (.slice none 0 0) (.int .i64 4) (.int .i64 0) v5 v6 v7 v10 v20 v35 v50) S)
def c42_4 (C : Callee) : Cd V11 := fun v S κ => (V11.casesOn v fun v0 v2 v3 v4 v5 v6 v7 v10 v20 v35 v50 => 
  kBuild [.string ⟨#[]⟩, .int .i64 0, .int .i64 0, .int .i64 0] [(0, 1, v0)] S fun v51 S51 =>
  kBox 133 4 v51 S51 fun v52 S52 =>
  κ .normal (V11.mk v0 v2 v3 v4 v52 v6 v7 v10 v20 v35 v50) S52)
def c42_5 (C : Callee) : Cd V11 := fun v S κ => (V11.casesOn v fun v0 v2 v3 v4 v5 v6 v7 v10 v20 v35 v50 => 
  κ .normal (V11.mk v0 v2 v3 v4 v5 (.slice none 0 0) v7 v10 v20 v35 v50) S)
def c42_6 (C : Callee) : Cd V11 := fun v S κ => (V11.casesOn v fun v0 v2 v3 v4 v5 v6 v7 v10 v20 v35 v50 => 
  kCall C 58 [v5] S fun v51 S51 =>
  κ .normal (V11.mk v0 v2 v3 v4 v5 v6 v7 v10 v20 v35 v50) S51)
def c42_7 (C : Callee) : Cd V11 := fun v S κ => (V11.casesOn v fun v0 v2 v3 v4 v5 v6 v7 v10 v20 v35 v50 => 
  kNilc v5 S fun v51 S51 =>
  kFad 2 v51 S51 fun v52 S52 =>
  kLd none v52 S52 fun v53 S53 =>
  kBin .neq v53 (.int .i64 0) S53 fun v54 S54 =>
  κ .normal (V11.mk v0 v2 v3 v4 v5 v6 v7 v10 v54 v35 v50) S54)
def c42_8 : V11 → Value := fun v => (V11.casesOn v fun v0 v2 v3 v4 v5 v6 v7 v10 v20 v35 v50 => v20)
def c42_9 (C : Callee) : Cd V11 := fun v S κ => (V11.casesOn v fun v0 v2 v3 v4 v5 v6 v7 v10 v20 v35 v50 => 
  kNilc v5 S fun v51 S51 =>
  kFad 2 v51 S51 fun v52 S52 =>
  kLd none v52 S52 fun v53 S53 =>
  kNilc v5 S53 fun v54 S54 =>
  kFad 3 v54 S54 fun v55 S55 =>
  kLd none v55 S55 fun v56 S56 =>
  κ .normal (V11.mk v0 (.slice none 0 0) v53 v56 v5 v6 v7 v10 v20 v35 v50) S56)
def c42_10 (C : Callee) : Cd V11 := fun v S κ => (V11.casesOn v fun v0 v2 v3 v4 v5 v6 v7 v10 v20 v35 v50 => 
  kCall C 59 [v5] S fun v51 S51 =>
  kNew 118 5 [.int .i64 0, .string ⟨#[]⟩, .int .i64 0, .int .u64 0, .int .i64 0] S51 fun v52 S52 =>
  kSt 5 v52 v51 S52 fun v53 S53 =>
  κ .normal (V11.mk v0 v2 v3 v4 v5 v6 v52 v10 v20 v35 v50) S53)
def c42_11 (C : Callee) : Cd V11 := fun v S κ => (V11.casesOn v fun v0 v2 v3 v4 v5 v6 v7 v10 v20 v35 v50 => 
  kNilc v5 S fun v51 S51 =>
  kFad 2 v51 S51 fun v52 S52 =>
  kLd none v52 S52 fun v53 S53 =>
  kBin .neq v53 (.int .i64 0) S53 fun v54 S54 =>
  κ .normal (V11.mk v0 v2 v3 v4 v5 v6 v7 v10 v20 v54 v50) S54)
def c42_12 : V11 → Value := fun v => (V11.casesOn v fun v0 v2 v3 v4 v5 v6 v7 v10 v20 v35 v50 => v35)
def c42_13 (C : Callee) : Cd V11 := fun v S κ => (V11.casesOn v fun v0 v2 v3 v4 v5 v6 v7 v10 v20 v35 v50 => 
  kNilc v5 S fun v51 S51 =>
  kFad 2 v51 S51 fun v52 S52 =>
  kLd none v52 S52 fun v53 S53 =>
  kNilc v5 S53 fun v54 S54 =>
  kFad 3 v54 S54 fun v55 S55 =>
  kLd none v55 S55 fun v56 S56 =>
  κ .normal (V11.mk v0 (.slice none 0 0) v53 v56 v5 v6 v7 v10 v20 v35 v50) S56)
def c42_14 (C : Callee) : Cd V11 := fun v S κ => (V11.casesOn v fun v0 v2 v3 v4 v5 v6 v7 v10 v20 v35 v50 => 
  kLd (some 5) v7 S fun v51 S51 =>
  kLit 118 5 [.int .i64 0, .string ⟨#[]⟩, .int .i64 0, .int .u64 0, .int .i64 0] 1 [(0, 5, v51)] S51 fun v52 S52 =>
  kApp 118 5 48 v6 v52 S52 fun v53 S53 =>
  κ .normal (V11.mk v0 v2 v3 v4 v5 v53 v7 v10 v20 v35 v50) S53)
def c42_15 (C : Callee) : Cd V11 := fun v S κ => (V11.casesOn v fun v0 v2 v3 v4 v5 v6 v7 v10 v20 v35 v50 => 
  kFad 0 v7 S fun v51 S51 =>
  kLd none v51 S51 fun v52 S52 =>
  kBin .eql v52 (.int .i64 6) S52 fun v53 S53 =>
  κ .normal (V11.mk v0 v2 v3 v4 v5 v6 v7 v10 v20 v35 v53) S53)
def c42_16 : V11 → Value := fun v => (V11.casesOn v fun v0 v2 v3 v4 v5 v6 v7 v10 v20 v35 v50 => v50)
def c42_17 (C : Callee) : Cd V11 := fun v S κ => (V11.casesOn v fun v0 v2 v3 v4 v5 v6 v7 v10 v20 v35 v50 => 
  κ .normal (V11.mk v0 v6 (.int .i64 0) (.int .i64 0) v5 v6 v7 v10 v20 v35 v50) S)
def c42_18 (C : Callee) (n : Nat) : Cd V11 := blockK 1 (seqK (c42_6 C) (seqK (seqK (c42_7 C) (condK c42_8 (seqK (c42_9 C) (retK)) (skipK))) (seqK (c42_10 C) (seqK (seqK (c42_11 C) (condK c42_12 (seqK (c42_13 C) (retK)) (skipK))) (seqK (c42_14 C) (seqK (c42_15 C) (condK c42_16 (seqK (c42_17 C) (retK)) (skipK))))))))
/-- assayer/assayerref5.Lex -/
def c42 (C : Callee) (n : Nat) : Cd V11 := seqK (c42_0 C) (seqK (seqK (c42_1 C) (condK c42_2 (seqK (c42_3 C) (retK)) (skipK))) (seqK (c42_4 C) (seqK (c42_5 C) (blockK 0 (loopK n (c42_18 C n))))))
def r42 (v : V11) (S : AW) : R := (V11.casesOn v fun v0 v2 v3 v4 v5 v6 v7 v10 v20 v35 v50 => some (.tuple #[v2, v3, v4], S))
def g42 (C : Callee) (n : Nat) (args : List Value) (S : AW) : R := c42 C n (V11.mk (argV args 0) (argV args 2) (argV args 3) (argV args 4) (argV args 5) (argV args 6) (argV args 7) (argV args 10) (argV args 20) (argV args 35) (argV args 50)) S fun o v S => EX.casesOn o (r42 v S) (fun _ => none) (r42 v S)
/-! (*assayer/assayerref5.parser).head -/
def c43_0 (C : Callee) : Cd V9 := fun v S κ => (V9.casesOn v fun v0 v1 v4 v5 v18 v40 v44 v55 v76 => 
  kNilc v0 S fun v77 S77 =>
  kFad 2 v77 S77 fun v78 S78 =>
  kLd none v78 S78 fun v79 S79 =>
  kBin .eql v79 (.int .i64 0) S79 fun v80 S80 =>
  bl v80 fun b => cond b
   (kCall C 60 [v0, (.string ⟨#[105, 110, 99, 108, 117, 100, 101]⟩)] S80 fun v81 S81 =>
   bl v81 fun b => cond b
    (κ .normal (V9.mk v0 v1 v4 v5 (.bool true) v40 v44 v55 v76) S81)
    (kCall C 60 [v0, (.string ⟨#[110, 97, 109, 101, 115, 112, 97, 99, 101]⟩)] S81 fun v82 S82 =>
    κ .normal (V9.mk v0 v1 v4 v5 v82 v40 v44 v55 v76) S82))
   (κ .normal (V9.mk v0 v1 v4 v5 (.bool false) v40 v44 v55 v76) S80))
def c43_1 : V9 → Value := fun v => (V9.casesOn v fun v0 v1 v4 v5 v18 v40 v44 v55 v76 => v18)
def c43_2 (C : Callee) : Cd V9 := fun v S κ => (V9.casesOn v fun v0 v1 v4 v5 v18 v40 v44 v55 v76 => 
  kCall C 60 [v0, (.string ⟨#[105, 110, 99, 108, 117, 100, 101]⟩)] S fun v77 S77 =>
  bl v77 fun b => cond b
   (kNilc v1 S77 fun v78 S78 =>
   kFad 0 v78 S78 fun v79 S79 =>
   kLd none v79 S79 fun v80 S80 =>
   kLen false v80 S80 fun v81 S81 =>
   kBin .eql v81 (.int .i64 5) S81 fun v82 S82 =>
   bl v82 fun b => cond b
    (κ .normal (V9.mk v0 v1 v4 v5 v18 (.bool true) v44 v55 v76) S82)
    (kCall C 60 [v0, (.string ⟨#[110, 97, 109, 101, 115, 112, 97, 99, 101]⟩)] S82 fun v83 S83 =>
    bl v83 fun b => cond b
     (kNilc v1 S83 fun v84 S84 =>
     kFad 1 v84 S84 fun v85 S85 =>
     kLd none v85 S85 fun v86 S86 =>
     kLen false v86 S86 fun v87 S87 =>
     kBin .eql v87 (.int .i64 5) S87 fun v88 S88 =>
     κ .normal (V9.mk v0 v1 v4 v5 v18 v88 v44 v55 v76) S88)
     (κ .normal (V9.mk v0 v1 v4 v5 v18 (.bool false) v44 v55 v76) S83)))
   (kCall C 60 [v0, (.string ⟨#[110, 97, 109, 101, 115, 112, 97, 99, 101]⟩)] S77 fun v78 S78 =>
   bl v78 fun b => cond b
    (kNilc v1 S78 fun v79 S79 =>
    kFad 1 v79 S79 fun v80 S80 =>
    kLd none v80 S80 fun v81 S81 =>
    kLen false v81 S81 fun v82 S82 =>
    kBin .eql v82 (.int .i64 5) S82 fun v83 S83 =>
    κ .normal (V9.mk v0 v1 v4 v5 v18 v83 v44 v55 v76) S83)
    (κ .normal (V9.mk v0 v1 v4 v5 v18 (.bool false) v44 v55 v76) S78)))
def c43_3 : V9 → Value := fun v => (V9.casesOn v fun v0 v1 v4 v5 v18 v40 v44 v55 v76 => v40)
def c43_4 (C : Callee) : Cd V9 := fun v S κ => (V9.casesOn v fun v0 v1 v4 v5 v18 v40 v44 v55 v76 => 
  kCall C 46 [v0, (.int .i64 4)] S fun v77 S77 =>
  κ .normal (V9.mk v0 v1 v4 v5 v18 v40 v44 v55 v76) S77)
def c43_5 (C : Callee) : Cd V9 := fun v S κ => (V9.casesOn v fun v0 v1 v4 v5 v18 v40 v44 v55 v76 => 
  kCall C 61 [v0, (.string ⟨#[105, 110, 99, 108, 117, 100, 101]⟩)] S fun v77 S77 =>
  κ .normal (V9.mk v0 v1 v4 v5 v18 v40 v77 v55 v76) S77)
def c43_6 : V9 → Value := fun v => (V9.casesOn v fun v0 v1 v4 v5 v18 v40 v44 v55 v76 => v44)
def c43_7 (C : Callee) : Cd V9 := fun v S κ => (V9.casesOn v fun v0 v1 v4 v5 v18 v40 v44 v55 v76 => 
  kCall C 44 [v0] S fun v77 S77 =>
  kNew 118 5 [.int .i64 0, .string ⟨#[]⟩, .int .i64 0, .int .u64 0, .int .i64 0] S77 fun v78 S78 =>
  kSt 5 v78 v77 S78 fun v79 S79 =>
  κ .normal (V9.mk v0 v1 v78 v5 v18 v40 v44 v55 v76) S79)
def c43_8 (C : Callee) : Cd V9 := fun v S κ => (V9.casesOn v fun v0 v1 v4 v5 v18 v40 v44 v55 v76 => 
  kFad 0 v4 S fun v77 S77 =>
  kLd none v77 S77 fun v78 S78 =>
  kBin .neq v78 (.int .i64 4) S78 fun v79 S79 =>
  bl v79 fun b => cond b
   (κ .normal (V9.mk v0 v1 v4 v5 v18 v40 v44 (.bool true) v76) S79)
   (kFad 1 v4 S79 fun v80 S80 =>
   kLd none v80 S80 fun v81 S81 =>
   kCall C 15 [v81] S81 fun v82 S82 =>
   kUn .not v82 S82 fun v83 S83 =>
   κ .normal (V9.mk v0 v1 v4 v5 v18 v40 v44 v83 v76) S83))
def c43_9 : V9 → Value := fun v => (V9.casesOn v fun v0 v1 v4 v5 v18 v40 v44 v55 v76 => v55)
def c43_10 (C : Callee) : Cd V9 := fun v S κ => (V9.casesOn v fun v0 v1 v4 v5 v18 v40 v44 v55 v76 => 
  kCall C 46 [v0, (.int .i64 2)] S fun v77 S77 =>
  κ .normal (V9.mk v0 v1 v4 v5 v18 v40 v44 v55 v76) S77)
def c43_11 (C : Callee) : Cd V9 := fun v S κ => (V9.casesOn v fun v0 v1 v4 v5 v18 v40 v44 v55 v76 => 
  kCall C 62 [v0] S fun v77 S77 =>
  κ .normal (V9.mk v0 v1 v4 v5 v18 v40 v44 v55 v76) S77)
def c43_12 (C : Callee) : Cd V9 := fun v S κ => (V9.casesOn v fun v0 v1 v4 v5 v18 v40 v44 v55 v76 => 
  kNilc v1 S fun v77 S77 =>
  kFad 0 v77 S77 fun v78 S78 =>
  kLd none v78 S78 fun v79 S79 =>
  kFad 1 v4 S79 fun v80 S80 =>
  kLd none v80 S80 fun v81 S81 =>
  kLit 9 1 [.string ⟨#[]⟩] 1 [(0, 1, v81)] S81 fun v82 S82 =>
  kLd none v80 S82 fun u _ => cond (veqB u v81)
   (kLd none v78 S82 fun u _ => cond (veqB u v79)
    (kApp 9 1 16 v79 v82 S82 fun v83 S83 =>
    kNilc v1 S83 fun v84 S84 =>
    kFad 0 v84 S84 fun v85 S85 =>
    kSt 1 v85 v83 S85 fun v86 S86 =>
    κ .normal (V9.mk v0 v1 v4 v5 v18 v40 v44 v55 v76) S86) none) none)
def c43_13 (C : Callee) : Cd V9 := fun v S κ => (V9.casesOn v fun v0 v1 v4 v5 v18 v40 v44 v55 v76 => 
  kCall C 62 [v0] S fun v77 S77 =>
  κ .normal (V9.mk v0 v1 v4 v5 v18 v40 v44 v55 v76) S77)
def c43_14 (C : Callee) : Cd V9 := fun v S κ => (V9.casesOn v fun v0 v1 v4 v5 v18 v40 v44 v55 v76 => 
  kBuild [.string ⟨#[]⟩, .string ⟨#[]⟩] [(0, 1, (.string ⟨#[42]⟩))] S fun v77 S77 =>
  kNew 96 2 [.string ⟨#[]⟩, .string ⟨#[]⟩] S77 fun v78 S78 =>
  kSt 2 v78 v77 S78 fun v79 S79 =>
  κ .normal (V9.mk v0 v1 v4 v78 v18 v40 v44 v55 v76) S79)
def c43_15 (C : Callee) : Cd V9 := fun v S κ => (V9.casesOn v fun v0 v1 v4 v5 v18 v40 v44 v55 v76 => 
  kCall C 63 [v0, (.string ⟨#[42]⟩)] S fun v77 S77 =>
  kUn .not v77 S77 fun v78 S78 =>
  κ .normal (V9.mk v0 v1 v4 v5 v18 v40 v44 v55 v78) S78)
def c43_16 : V9 → Value := fun v => (V9.casesOn v fun v0 v1 v4 v5 v18 v40 v44 v55 v76 => v76)
def c43_17 (C : Callee) : Cd V9 := fun v S κ => (V9.casesOn v fun v0 v1 v4 v5 v18 v40 v44 v55 v76 => 
  kCall C 64 [v0] S fun v77 S77 =>
  kFad 0 v5 S77 fun v78 S78 =>
  kSt 1 v78 v77 S78 fun v79 S79 =>
  κ .normal (V9.mk v0 v1 v4 v5 v18 v40 v44 v55 v76) S79)
def c43_18 (C : Callee) : Cd V9 := fun v S κ => (V9.casesOn v fun v0 v1 v4 v5 v18 v40 v44 v55 v76 => 
  kCall C 64 [v0] S fun v77 S77 =>
  kFad 1 v5 S77 fun v78 S78 =>
  kSt 1 v78 v77 S78 fun v79 S79 =>
  κ .normal (V9.mk v0 v1 v4 v5 v18 v40 v44 v55 v76) S79)
def c43_19 (C : Callee) : Cd V9 := fun v S κ => (V9.casesOn v fun v0 v1 v4 v5 v18 v40 v44 v55 v76 => 
  kNilc v1 S fun v77 S77 =>
  kFad 1 v77 S77 fun v78 S78 =>
  kLd none v78 S78 fun v79 S79 =>
  kLd (some 2) v5 S79 fun v80 S80 =>
  kLit 96 2 [.string ⟨#[]⟩, .string ⟨#[]⟩] 1 [(0, 2, v80)] S80 fun v81 S81 =>
  kLd (some 2) v5 S81 fun u _ => cond (veqB u v80)
   (kLd none v78 S81 fun u _ => cond (veqB u v79)
    (kApp 96 2 32 v79 v81 S81 fun v82 S82 =>
    kNilc v1 S82 fun v83 S83 =>
    kFad 1 v83 S83 fun v84 S84 =>
    kSt 1 v84 v82 S84 fun v85 S85 =>
    κ .normal (V9.mk v0 v1 v4 v5 v18 v40 v44 v55 v76) S85) none) none)
def c43_20 (C : Callee) (n : Nat) : Cd V9 := seqK (seqK (c43_0 C) (condK c43_1 (skipK) (exitK 0))) (blockK 1 (seqK (seqK (c43_2 C) (condK c43_3 (seqK (c43_4 C) (retK)) (skipK))) (seqK (seqK (c43_5 C) (condK c43_6 (seqK (c43_7 C) (seqK (seqK (c43_8 C) (condK c43_9 (seqK (c43_10 C) (retK)) (skipK))) (seqK (c43_11 C) (seqK (c43_12 C) (exitK 1))))) (skipK))) (seqK (c43_13 C) (seqK (c43_14 C) (seqK (seqK (c43_15 C) (condK c43_16 (c43_17 C) (skipK))) (seqK (c43_18 C) (c43_19 C))))))))
/-- (*assayer/assayerref5.parser).head -/
def c43 (C : Callee) (n : Nat) : Cd V9 := blockK 0 (loopK n (c43_20 C n))
def r43 (v : V9) (S : AW) : R := (V9.casesOn v fun v0 v1 v4 v5 v18 v40 v44 v55 v76 => some (.tuple #[], S))
def g43 (C : Callee) (n : Nat) (args : List Value) (S : AW) : R := c43 C n (V9.mk (argV args 0) (argV args 1) (argV args 4) (argV args 5) (argV args 18) (argV args 40) (argV args 44) (argV args 55) (argV args 76)) S fun o v S => EX.casesOn o (r43 v S) (fun _ => none) (r43 v S)
/-! (*assayer/assayerref5.parser).now -/
def c44_0 (C : Callee) : Cd V2 := fun v S κ => (V2.casesOn v fun v0 v2 => 
  kNew 118 5 [.int .i64 0, .string ⟨#[]⟩, .int .i64 0, .int .u64 0, .int .i64 0] S fun v3 S3 =>
  κ .normal (V2.mk v0 v3) S3)
def c44_1 (C : Callee) : Cd V2 := fun v S κ => (V2.casesOn v fun v0 v2 => 
  kNilc v0 S fun v3 S3 =>
  kFad 0 v3 S3 fun v4 S4 =>
  kLd none v4 S4 fun v5 S5 =>
  kNilc v0 S5 fun v6 S6 =>
  kFad 1 v6 S6 fun v7 S7 =>
  kLd none v7 S7 fun v8 S8 =>
  kIad 5 v5 v8 S8 fun v9 S9 =>
  kLd (some 5) v9 S9 fun v10 S10 =>
  kSt 5 v2 v10 S10 fun v11 S11 =>
  κ .normal (V2.mk v0 v2) S11)
/-- (*assayer/assayerref5.parser).now -/
def c44 (C : Callee) (n : Nat) : Cd V2 := seqK (c44_0 C) (seqK (c44_1 C) (retK))
def r44 (v : V2) (S : AW) : R := (V2.casesOn v fun v0 v2 => kLd (some 5) v2 S fun r2 _ => some (r2, S))
def g44 (C : Callee) (n : Nat) (args : List Value) (S : AW) : R := c44 C n (V2.mk (argV args 0) (argV args 2)) S fun o v S => EX.casesOn o (r44 v S) (fun _ => none) (r44 v S)
/-! (*assayer/assayerref5.parser).defines -/
def c45_0 (C : Callee) : Cd V6 := fun v S κ => (V6.casesOn v fun v0 v2 v3 v4 v9 v17 => 
  κ .normal (V6.mk v0 (.bool false) v3 v4 v9 v17) S)
def c45_1 (C : Callee) : Cd V6 := fun v S κ => (V6.casesOn v fun v0 v2 v3 v4 v9 v17 => 
  kLit 9 1 [.string ⟨#[]⟩] 7 [(0, 1, (.string ⟨#[116, 121, 112, 101, 100, 101, 102]⟩)), (1, 1, (.string ⟨#[99, 111, 110, 115, 116]⟩)), (2, 1, (.string ⟨#[101, 110, 117, 109]⟩)), (3, 1, (.string ⟨#[115, 116, 114, 117, 99, 116]⟩)), (4, 1, (.string ⟨#[117, 110, 105, 111, 110]⟩)), (5, 1, (.string ⟨#[101, 120, 99, 101, 112, 116, 105, 111, 110]⟩)), (6, 1, (.string ⟨#[115, 101, 114, 118, 105, 99, 101]⟩))] S fun v18 S18 =>
  κ .normal (V6.mk v0 v2 v18 v4 v9 v17) S18)
def c45_2 (C : Callee) : Cd V6 := fun v S κ => (V6.casesOn v fun v0 v2 v3 v4 v9 v17 => 
  κ .normal (V6.mk v0 v2 v3 (.int .i64 0) v9 v17) S)
def c45_3 (C : Callee) : Cd V6 := fun v S κ => (V6.casesOn v fun v0 v2 v3 v4 v9 v17 => 
  kLen false v3 S fun v18 S18 =>
  kBin .lss v4 v18 S18 fun v19 S19 =>
  κ .normal (V6.mk v0 v2 v3 v4 v19 v17) S19)
def c45_4 : V6 → Value := fun v => (V6.casesOn v fun v0 v2 v3 v4 v9 v17 => v9)
def c45_5 (C : Callee) : Cd V6 := fun v S κ => (V6.casesOn v fun v0 v2 v3 v4 v9 v17 => 
  kIad 1 v3 v4 S fun v18 S18 =>
  kLd none v18 S18 fun v19 S19 =>
  kCall C 60 [v0, v19] S19 fun v20 S20 =>
  κ .normal (V6.mk v0 v2 v3 v4 v9 v20) S20)
def c45_6 : V6 → Value := fun v => (V6.casesOn v fun v0 v2 v3 v4 v9 v17 => v17)
def c45_7 (C : Callee) : Cd V6 := fun v S κ => (V6.casesOn v fun v0 v2 v3 v4 v9 v17 => 
  κ .normal (V6.mk v0 (.bool true) v3 v4 v9 v17) S)
def c45_8 (C : Callee) : Cd V6 := fun v S κ => (V6.casesOn v fun v0 v2 v3 v4 v9 v17 => 
  kBin .add v4 (.int .i64 1) S fun v18 S18 =>
  κ .normal (V6.mk v0 v2 v3 v18 v9 v17) S18)
def c45_9 (C : Callee) (n : Nat) : Cd V6 := seqK (seqK (c45_3 C) (condK c45_4 (skipK) (exitK 0))) (seqK (blockK 1 (seqK (c45_5 C) (condK c45_6 (seqK (c45_7 C) (retK)) (skipK)))) (c45_8 C))
def c45_10 (C : Callee) : Cd V6 := fun v S κ => (V6.casesOn v fun v0 v2 v3 v4 v9 v17 => 
  κ .normal (V6.mk v0 (.bool false) v3 v4 v9 v17) S)
/-- (*assayer/assayerref5.parser).defines -/
def c45 (C : Callee) (n : Nat) : Cd V6 := seqK (c45_0 C) (seqK (c45_1 C) (seqK (seqK (c45_2 C) (blockK 0 (loopK n (c45_9 C n)))) (seqK (c45_10 C) (retK))))
def r45 (v : V6) (S : AW) : R := (V6.casesOn v fun v0 v2 v3 v4 v9 v17 => some (v2, S))
def g45 (C : Callee) (n : Nat) (args : List Value) (S : AW) : R := c45 C n (V6.mk (argV args 0) (argV args 2) (argV args 3) (argV args 4) (argV args 9) (argV args 17)) S fun o v S => EX.casesOn o (r45 v S) (fun _ => none) (r45 v S)
/-! (*assayer/assayerref5.parser).fail -/
def c46_0 (C : Callee) : Cd V3 := fun v S κ => (V3.casesOn v fun v0 v1 v8 => 
  kNilc v0 S fun v9 S9 =>
  kFad 2 v9 S9 fun v10 S10 =>
  kLd none v10 S10 fun v11 S11 =>
  kBin .eql v11 (.int .i64 0) S11 fun v12 S12 =>
  κ .normal (V3.mk v0 v1 v12) S12)
def c46_1 : V3 → Value := fun v => (V3.casesOn v fun v0 v1 v8 => v8)
def c46_2 (C : Callee) : Cd V3 := fun v S κ => (V3.casesOn v fun v0 v1 v8 => 
  kCall C 44 [v0] S fun v9 S9 =>
  kFld none 4 v9 S9 fun v10 S10 =>
  kNilc v0 S10 fun v11 S11 =>
  kFad 2 v11 S11 fun v12 S12 =>
  kSt 1 v12 v1 S12 fun v13 S13 =>
  kNilc v0 S13 fun v14 S14 =>
  kFad 3 v14 S14 fun v15 S15 =>
  kSt 1 v15 v10 S15 fun v16 S16 =>
  κ .normal (V3.mk v0 v1 v8) S16)
/-- (*assayer/assayerref5.parser).fail -/
def c46 (C : Callee) (n : Nat) : Cd V3 := seqK (c46_0 C) (condK c46_1 (c46_2 C) (skipK))
def r46 (v : V3) (S : AW) : R := (V3.casesOn v fun v0 v1 v8 => some (.tuple #[], S))
def g46 (C : Callee) (n : Nat) (args : List Value) (S : AW) : R := c46 C n (V3.mk (argV args 0) (argV args 1) (argV args 8)) S fun o v S => EX.casesOn o (r46 v S) (fun _ => none) (r46 v S)
/-! (*assayer/assayerref5.parser).def -/
def c47_0 (C : Callee) : Cd V12 := fun v S κ => (V12.casesOn v fun v0 v2 v3 v4 v7 v17 v32 v44 v49 v54 v59 v67 => 
  kNew 51 12 [.int .i64 0, .string ⟨#[]⟩, .string ⟨#[]⟩, .int .i64 0, .int .i64 0, .int .u64 0, .string ⟨#[]⟩, .slice none 0 0, .slice none 0 0, .slice none 0 0, .string ⟨#[]⟩, .slice none 0 0] S fun v68 S68 =>
  κ .normal (V12.mk v0 v68 (.bool false) v4 v7 v17 v32 v44 v49 v54 v59 v67) S68)
def c47_1 (C : Callee) : Cd V12 := fun v S κ => (V12.casesOn v fun v0 v2 v3 v4 v7 v17 v32 v44 v49 v54 v59 v67 => 
  kBuild [.int .i64 0, .string ⟨#[]⟩, .string ⟨#[]⟩, .int .i64 0, .int .i64 0, .int .u64 0, .string ⟨#[]⟩, .slice none 0 0, .slice none 0 0, .slice none 0 0, .string ⟨#[]⟩, .slice none 0 0] [] S fun v68 S68 =>
  kNew 51 12 [.int .i64 0, .string ⟨#[]⟩, .string ⟨#[]⟩, .int .i64 0, .int .i64 0, .int .u64 0, .string ⟨#[]⟩, .slice none 0 0, .slice none 0 0, .slice none 0 0, .string ⟨#[]⟩, .slice none 0 0] S68 fun v69 S69 =>
  kSt 12 v69 v68 S69 fun v70 S70 =>
  κ .normal (V12.mk v0 v2 v3 v69 v7 v17 v32 v44 v49 v54 v59 v67) S70)
def c47_2 (C : Callee) : Cd V12 := fun v S κ => (V12.casesOn v fun v0 v2 v3 v4 v7 v17 v32 v44 v49 v54 v59 v67 => 
  kCall C 61 [v0, (.string ⟨#[116, 121, 112, 101, 100, 101, 102]⟩)] S fun v68 S68 =>
  κ .normal (V12.mk v0 v2 v3 v4 v68 v17 v32 v44 v49 v54 v59 v67) S68)
def c47_3 : V12 → Value := fun v => (V12.casesOn v fun v0 v2 v3 v4 v7 v17 v32 v44 v49 v54 v59 v67 => v7)
def c47_4 (C : Callee) : Cd V12 := fun v S κ => (V12.casesOn v fun v0 v2 v3 v4 v7 v17 v32 v44 v49 v54 v59 v67 => 
  kCall C 65 [v0, (.int .i64 1)] S fun v68 S68 =>
  kFad 0 v4 S68 fun v69 S69 =>
  kSt 1 v69 (.int .i64 1) S69 fun v70 S70 =>
  kFad 2 v4 S70 fun v71 S71 =>
  kSt 1 v71 v68 S71 fun v72 S72 =>
  κ .normal (V12.mk v0 v2 v3 v4 v7 v17 v32 v44 v49 v54 v59 v67) S72)
def c47_5 (C : Callee) : Cd V12 := fun v S κ => (V12.casesOn v fun v0 v2 v3 v4 v7 v17 v32 v44 v49 v54 v59 v67 => 
  kCall C 66 [v0] S fun v68 S68 =>
  kFad 1 v4 S68 fun v69 S69 =>
  kSt 1 v69 v68 S69 fun v70 S70 =>
  κ .normal (V12.mk v0 v2 v3 v4 v7 v17 v32 v44 v49 v54 v59 v67) S70)
def c47_6 (C : Callee) : Cd V12 := fun v S κ => (V12.casesOn v fun v0 v2 v3 v4 v7 v17 v32 v44 v49 v54 v59 v67 => 
  kCall C 61 [v0, (.string ⟨#[99, 111, 110, 115, 116]⟩)] S fun v68 S68 =>
  κ .normal (V12.mk v0 v2 v3 v4 v7 v68 v32 v44 v49 v54 v59 v67) S68)
def c47_7 : V12 → Value := fun v => (V12.casesOn v fun v0 v2 v3 v4 v7 v17 v32 v44 v49 v54 v59 v67 => v17)
def c47_8 (C : Callee) : Cd V12 := fun v S κ => (V12.casesOn v fun v0 v2 v3 v4 v7 v17 v32 v44 v49 v54 v59 v67 => 
  kCall C 65 [v0, (.int .i64 1)] S fun v68 S68 =>
  kFad 0 v4 S68 fun v69 S69 =>
  kSt 1 v69 (.int .i64 3) S69 fun v70 S70 =>
  kFad 2 v4 S70 fun v71 S71 =>
  kSt 1 v71 v68 S71 fun v72 S72 =>
  κ .normal (V12.mk v0 v2 v3 v4 v7 v17 v32 v44 v49 v54 v59 v67) S72)
def c47_9 (C : Callee) : Cd V12 := fun v S κ => (V12.casesOn v fun v0 v2 v3 v4 v7 v17 v32 v44 v49 v54 v59 v67 => 
  kCall C 66 [v0] S fun v68 S68 =>
  kFad 1 v4 S68 fun v69 S69 =>
  kSt 1 v69 v68 S69 fun v70 S70 =>
  κ .normal (V12.mk v0 v2 v3 v4 v7 v17 v32 v44 v49 v54 v59 v67) S70)
def c47_10 (C : Callee) : Cd V12 := fun v S κ => (V12.casesOn v fun v0 v2 v3 v4 v7 v17 v32 v44 v49 v54 v59 v67 => 
  kCall C 67 [v0, (.string ⟨#[61]⟩)] S fun v68 S68 =>
  κ .normal (V12.mk v0 v2 v3 v4 v7 v17 v32 v44 v49 v54 v59 v67) S68)
def c47_11 (C : Callee) : Cd V12 := fun v S κ => (V12.casesOn v fun v0 v2 v3 v4 v7 v17 v32 v44 v49 v54 v59 v67 => 
  kCall C 68 [v0, (.int .i64 1)] S fun v68 S68 =>
  kFad 3 v4 S68 fun v69 S69 =>
  kSt 5 v69 v68 S69 fun v70 S70 =>
  κ .normal (V12.mk v0 v2 v3 v4 v7 v17 v32 v44 v49 v54 v59 v67) S70)
def c47_12 (C : Callee) : Cd V12 := fun v S κ => (V12.casesOn v fun v0 v2 v3 v4 v7 v17 v32 v44 v49 v54 v59 v67 => 
  kCall C 61 [v0, (.string ⟨#[101, 110, 117, 109]⟩)] S fun v68 S68 =>
  κ .normal (V12.mk v0 v2 v3 v4 v7 v17 v68 v44 v49 v54 v59 v67) S68)
def c47_13 : V12 → Value := fun v => (V12.casesOn v fun v0 v2 v3 v4 v7 v17 v32 v44 v49 v54 v59 v67 => v32)
def c47_14 (C : Callee) : Cd V12 := fun v S κ => (V12.casesOn v fun v0 v2 v3 v4 v7 v17 v32 v44 v49 v54 v59 v67 => 
  kCall C 66 [v0] S fun v68 S68 =>
  kFad 0 v4 S68 fun v69 S69 =>
  kSt 1 v69 (.int .i64 2) S69 fun v70 S70 =>
  kFad 1 v4 S70 fun v71 S71 =>
  kSt 1 v71 v68 S71 fun v72 S72 =>
  κ .normal (V12.mk v0 v2 v3 v4 v7 v17 v32 v44 v49 v54 v59 v67) S72)
def c47_15 (C : Callee) : Cd V12 := fun v S κ => (V12.casesOn v fun v0 v2 v3 v4 v7 v17 v32 v44 v49 v54 v59 v67 => 
  kCall C 67 [v0, (.string ⟨#[123]⟩)] S fun v68 S68 =>
  κ .normal (V12.mk v0 v2 v3 v4 v7 v17 v32 v44 v49 v54 v59 v67) S68)
def c47_16 (C : Callee) : Cd V12 := fun v S κ => (V12.casesOn v fun v0 v2 v3 v4 v7 v17 v32 v44 v49 v54 v59 v67 => 
  kCall C 69 [v0] S fun v68 S68 =>
  kFad 9 v4 S68 fun v69 S69 =>
  kSt 1 v69 v68 S69 fun v70 S70 =>
  κ .normal (V12.mk v0 v2 v3 v4 v7 v17 v32 v44 v49 v54 v59 v67) S70)
def c47_17 (C : Callee) : Cd V12 := fun v S κ => (V12.casesOn v fun v0 v2 v3 v4 v7 v17 v32 v44 v49 v54 v59 v67 => 
  kCall C 61 [v0, (.string ⟨#[115, 116, 114, 117, 99, 116]⟩)] S fun v68 S68 =>
  κ .normal (V12.mk v0 v2 v3 v4 v7 v17 v32 v68 v49 v54 v59 v67) S68)
def c47_18 : V12 → Value := fun v => (V12.casesOn v fun v0 v2 v3 v4 v7 v17 v32 v44 v49 v54 v59 v67 => v44)
def c47_19 (C : Callee) : Cd V12 := fun v S κ => (V12.casesOn v fun v0 v2 v3 v4 v7 v17 v32 v44 v49 v54 v59 v67 => 
  kCall C 70 [v0, (.int .i64 4)] S fun v68 S68 =>
  kSt 12 v4 v68 S68 fun v69 S69 =>
  κ .normal (V12.mk v0 v2 v3 v4 v7 v17 v32 v44 v49 v54 v59 v67) S69)
def c47_20 (C : Callee) : Cd V12 := fun v S κ => (V12.casesOn v fun v0 v2 v3 v4 v7 v17 v32 v44 v49 v54 v59 v67 => 
  kCall C 61 [v0, (.string ⟨#[117, 110, 105, 111, 110]⟩)] S fun v68 S68 =>
  κ .normal (V12.mk v0 v2 v3 v4 v7 v17 v32 v44 v68 v54 v59 v67) S68)
def c47_21 : V12 → Value := fun v => (V12.casesOn v fun v0 v2 v3 v4 v7 v17 v32 v44 v49 v54 v59 v67 => v49)
def c47_22 (C : Callee) : Cd V12 := fun v S κ => (V12.casesOn v fun v0 v2 v3 v4 v7 v17 v32 v44 v49 v54 v59 v67 => 
  kCall C 70 [v0, (.int .i64 5)] S fun v68 S68 =>
  kSt 12 v4 v68 S68 fun v69 S69 =>
  κ .normal (V12.mk v0 v2 v3 v4 v7 v17 v32 v44 v49 v54 v59 v67) S69)
def c47_23 (C : Callee) : Cd V12 := fun v S κ => (V12.casesOn v fun v0 v2 v3 v4 v7 v17 v32 v44 v49 v54 v59 v67 => 
  kCall C 61 [v0, (.string ⟨#[101, 120, 99, 101, 112, 116, 105, 111, 110]⟩)] S fun v68 S68 =>
  κ .normal (V12.mk v0 v2 v3 v4 v7 v17 v32 v44 v49 v68 v59 v67) S68)
def c47_24 : V12 → Value := fun v => (V12.casesOn v fun v0 v2 v3 v4 v7 v17 v32 v44 v49 v54 v59 v67 => v54)
def c47_25 (C : Callee) : Cd V12 := fun v S κ => (V12.casesOn v fun v0 v2 v3 v4 v7 v17 v32 v44 v49 v54 v59 v67 => 
  kCall C 70 [v0, (.int .i64 6)] S fun v68 S68 =>
  kSt 12 v4 v68 S68 fun v69 S69 =>
  κ .normal (V12.mk v0 v2 v3 v4 v7 v17 v32 v44 v49 v54 v59 v67) S69)
def c47_26 (C : Callee) : Cd V12 := fun v S κ => (V12.casesOn v fun v0 v2 v3 v4 v7 v17 v32 v44 v49 v54 v59 v67 => 
  kCall C 61 [v0, (.string ⟨#[115, 101, 114, 118, 105, 99, 101]⟩)] S fun v68 S68 =>
  κ .normal (V12.mk v0 v2 v3 v4 v7 v17 v32 v44 v49 v54 v68 v67) S68)
def c47_27 : V12 → Value := fun v => (V12.casesOn v fun v0 v2 v3 v4 v7 v17 v32 v44 v49 v54 v59 v67 => v59)
def c47_28 (C : Callee) : Cd V12 := fun v S κ => (V12.casesOn v fun v0 v2 v3 v4 v7 v17 v32 v44 v49 v54 v59 v67 => 
  kCall C 66 [v0] S fun v68 S68 =>
  kFad 0 v4 S68 fun v69 S69 =>
  kSt 1 v69 (.int .i64 7) S69 fun v70 S70 =>
  kFad 1 v4 S70 fun v71 S71 =>
  kSt 1 v71 v68 S71 fun v72 S72 =>
  κ .normal (V12.mk v0 v2 v3 v4 v7 v17 v32 v44 v49 v54 v59 v67) S72)
def c47_29 (C : Callee) : Cd V12 := fun v S κ => (V12.casesOn v fun v0 v2 v3 v4 v7 v17 v32 v44 v49 v54 v59 v67 => 
  kCall C 61 [v0, (.string ⟨#[101, 120, 116, 101, 110, 100, 115]⟩)] S fun v68 S68 =>
  κ .normal (V12.mk v0 v2 v3 v4 v7 v17 v32 v44 v49 v54 v59 v68) S68)
def c47_30 : V12 → Value := fun v => (V12.casesOn v fun v0 v2 v3 v4 v7 v17 v32 v44 v49 v54 v59 v67 => v67)
def c47_31 (C : Callee) : Cd V12 := fun v S κ => (V12.casesOn v fun v0 v2 v3 v4 v7 v17 v32 v44 v49 v54 v59 v67 => 
  kCall C 64 [v0] S fun v68 S68 =>
  kFad 10 v4 S68 fun v69 S69 =>
  kSt 1 v69 v68 S69 fun v70 S70 =>
  κ .normal (V12.mk v0 v2 v3 v4 v7 v17 v32 v44 v49 v54 v59 v67) S70)
def c47_32 (C : Callee) : Cd V12 := fun v S κ => (V12.casesOn v fun v0 v2 v3 v4 v7 v17 v32 v44 v49 v54 v59 v67 => 
  kCall C 67 [v0, (.string ⟨#[123]⟩)] S fun v68 S68 =>
  κ .normal (V12.mk v0 v2 v3 v4 v7 v17 v32 v44 v49 v54 v59 v67) S68)
def c47_33 (C : Callee) : Cd V12 := fun v S κ => (V12.casesOn v fun v0 v2 v3 v4 v7 v17 v32 v44 v49 v54 v59 v67 => 
  kCall C 71 [v0] S fun v68 S68 =>
  kFad 11 v4 S68 fun v69 S69 =>
  kSt 1 v69 v68 S69 fun v70 S70 =>
  κ .normal (V12.mk v0 v2 v3 v4 v7 v17 v32 v44 v49 v54 v59 v67) S70)
def c47_34 (C : Callee) : Cd V12 := fun v S κ => (V12.casesOn v fun v0 v2 v3 v4 v7 v17 v32 v44 v49 v54 v59 v67 => 
  kLd (some 12) v4 S fun v68 S68 =>
  kSt 12 v2 v68 S68 fun v69 S69 =>
  κ .normal (V12.mk v0 v2 (.bool false) v4 v7 v17 v32 v44 v49 v54 v59 v67) S69)
def c47_35 (C : Callee) : Cd V12 := fun v S κ => (V12.casesOn v fun v0 v2 v3 v4 v7 v17 v32 v44 v49 v54 v59 v67 => 
  kCall C 72 [v0] S fun v68 S68 =>
  κ .normal (V12.mk v0 v2 v3 v4 v7 v17 v32 v44 v49 v54 v59 v67) S68)
def c47_36 (C : Callee) : Cd V12 := fun v S κ => (V12.casesOn v fun v0 v2 v3 v4 v7 v17 v32 v44 v49 v54 v59 v67 => 
  kLd (some 12) v4 S fun v68 S68 =>
  kSt 12 v2 v68 S68 fun v69 S69 =>
  κ .normal (V12.mk v0 v2 (.bool true) v4 v7 v17 v32 v44 v49 v54 v59 v67) S69)
/-- (*assayer/assayerref5.parser).def -/
def c47 (C : Callee) (n : Nat) : Cd V12 := seqK (c47_0 C) (seqK (c47_1 C) (seqK (blockK 0 (seqK (c47_2 C) (condK c47_3 (seqK (c47_4 C) (c47_5 C)) (seqK (c47_6 C) (condK c47_7 (seqK (c47_8 C) (seqK (c47_9 C) (seqK (c47_10 C) (c47_11 C)))) (seqK (c47_12 C) (condK c47_13 (seqK (c47_14 C) (seqK (c47_15 C) (c47_16 C))) (seqK (c47_17 C) (condK c47_18 (c47_19 C) (seqK (c47_20 C) (condK c47_21 (c47_22 C) (seqK (c47_23 C) (condK c47_24 (c47_25 C) (seqK (c47_26 C) (condK c47_27 (seqK (c47_28 C) (seqK (seqK (c47_29 C) (condK c47_30 (c47_31 C) (skipK))) (seqK (c47_32 C) (c47_33 C)))) (seqK (c47_34 C) (retK))))))))))))))))) (seqK (c47_35 C) (seqK (c47_36 C) (retK)))))
def r47 (v : V12) (S : AW) : R := (V12.casesOn v fun v0 v2 v3 v4 v7 v17 v32 v44 v49 v54 v59 v67 => kLd (some 12) v2 S fun r2 _ => some (.tuple #[r2, v3], S))
def g47 (C : Callee) (n : Nat) (args : List Value) (S : AW) : R := c47 C n (V12.mk (argV args 0) (argV args 2) (argV args 3) (argV args 4) (argV args 7) (argV args 17) (argV args 32) (argV args 44) (argV args 49) (argV args 54) (argV args 59) (argV args 67)) S fun o v S => EX.casesOn o (r47 v S) (fun _ => none) (r47 v S)
/-! strings.explode -/
def c52_0 (C : Callee) : Cd V10 := fun v S κ => (V10.casesOn v fun v0 v1 v4 v5 v6 v7 v9 v18 v25 v43 => 
  κ .normal (V10.mk v0 v1 (.slice none 0 0) v5 v6 v7 v9 v18 v25 v43) S)
def c52_1 (C : Callee) : Cd V10 := fun v S κ => (V10.casesOn v fun v0 v1 v4 v5 v6 v7 v9 v18 v25 v43 => 
  kCall C 79 [v0] S fun v44 S44 =>
  κ .normal (V10.mk v0 v1 v4 v44 v6 v7 v9 v18 v25 v43) S44)
def c52_2 (C : Callee) : Cd V10 := fun v S κ => (V10.casesOn v fun v0 v1 v4 v5 v6 v7 v9 v18 v25 v43 => 
  kBin .lss v1 (.int .i64 0) S fun v44 S44 =>
  bl v44 fun b => cond b
   (κ .normal (V10.mk v0 v1 v4 v5 v6 v7 v9 (.bool true) v25 v43) S44)
   (kBin .gtr v1 v5 S44 fun v45 S45 =>
   κ .normal (V10.mk v0 v1 v4 v5 v6 v7 v9 v45 v25 v43) S45))
def c52_3 : V10 → Value := fun v => (V10.casesOn v fun v0 v1 v4 v5 v6 v7 v9 v18 v25 v43 => v18)
def c52_4 (C : Callee) : Cd V10 := fun v S κ => (V10.casesOn v fun v0 v1 v4 v5 v6 v7 v9 v18 v25 v43 => 
  κ .normal (V10.mk v0 v5 v4 v5 v6 v7 v9 v18 v25 v43) S)
def c52_5 (C : Callee) : Cd V10 := fun v S κ => (V10.casesOn v fun v0 v1 v4 v5 v6 v7 v9 v18 v25 v43 => 
  kMks 9 1 16 [.string ⟨#[]⟩] v1 v1 S fun v44 S44 =>
  κ .normal (V10.mk v0 v1 v4 v5 v44 v7 v9 v18 v25 v43) S44)
def c52_6 (C : Callee) : Cd V10 := fun v S κ => (V10.casesOn v fun v0 v1 v4 v5 v6 v7 v9 v18 v25 v43 => 
  κ .normal (V10.mk v0 v1 v4 v5 v6 (.int .i64 0) v9 v18 v25 v43) S)
def c52_7 (C : Callee) : Cd V10 := fun v S κ => (V10.casesOn v fun v0 v1 v4 v5 v6 v7 v9 v18 v25 v43 => 
  kBin .sub v1 (.int .i64 1) S fun v44 S44 =>
  kBin .lss v7 v44 S44 fun v45 S45 =>
  κ .normal (V10.mk v0 v1 v4 v5 v6 v7 v9 v18 v45 v43) S45)
def c52_8 : V10 → Value := fun v => (V10.casesOn v fun v0 v1 v4 v5 v6 v7 v9 v18 v25 v43 => v25)
def c52_9 (C : Callee) : Cd V10 := fun v S κ => (V10.casesOn v fun v0 v1 v4 v5 v6 v7 v9 v18 v25 v43 => 
  kCall C 80 [v0] S fun v44 S44 =>
  kExt 0 v44 S44 fun v45 S45 =>
  kExt 1 v44 S45 fun v46 S46 =>
  κ .normal (V10.mk v0 v1 v4 v5 v6 v7 v46 v18 v25 v43) S46)
def c52_10 (C : Callee) : Cd V10 := fun v S κ => (V10.casesOn v fun v0 v1 v4 v5 v6 v7 v9 v18 v25 v43 => 
  kSlS v0 none (some v9) S fun v44 S44 =>
  kIad 1 v6 v7 S44 fun v45 S45 =>
  kSt 1 v45 v44 S45 fun v46 S46 =>
  κ .normal (V10.mk v0 v1 v4 v5 v6 v7 v9 v18 v25 v43) S46)
def c52_11 (C : Callee) : Cd V10 := fun v S κ => (V10.casesOn v fun v0 v1 v4 v5 v6 v7 v9 v18 v25 v43 => 
  kSlS v0 (some v9) none S fun v44 S44 =>
  κ .normal (V10.mk v44 v1 v4 v5 v6 v7 v9 v18 v25 v43) S44)
def c52_12 (C : Callee) : Cd V10 := fun v S κ => (V10.casesOn v fun v0 v1 v4 v5 v6 v7 v9 v18 v25 v43 => 
  kBin .add v7 (.int .i64 1) S fun v44 S44 =>
  κ .normal (V10.mk v0 v1 v4 v5 v6 v44 v9 v18 v25 v43) S44)
def c52_13 (C : Callee) (n : Nat) : Cd V10 := seqK (seqK (c52_7 C) (condK c52_8 (skipK) (exitK 0))) (seqK (blockK 1 (seqK (c52_9 C) (seqK (c52_10 C) (c52_11 C)))) (c52_12 C))
def c52_14 (C : Callee) : Cd V10 := fun v S κ => (V10.casesOn v fun v0 v1 v4 v5 v6 v7 v9 v18 v25 v43 => 
  kBin .gtr v1 (.int .i64 0) S fun v44 S44 =>
  κ .normal (V10.mk v0 v1 v4 v5 v6 v7 v9 v18 v25 v44) S44)
def c52_15 : V10 → Value := fun v => (V10.casesOn v fun v0 v1 v4 v5 v6 v7 v9 v18 v25 v43 => v43)
def c52_16 (C : Callee) : Cd V10 := fun v S κ => (V10.casesOn v fun v0 v1 v4 v5 v6 v7 v9 v18 v25 v43 => 
  kBin .sub v1 (.int .i64 1) S fun v44 S44 =>
  kIad 1 v6 v44 S44 fun v45 S45 =>
  kSt 1 v45 v0 S45 fun v46 S46 =>
  κ .normal (V10.mk v0 v1 v4 v5 v6 v7 v9 v18 v25 v43) S46)
def c52_17 (C : Callee) : Cd V10 := fun v S κ => (V10.casesOn v fun v0 v1 v4 v5 v6 v7 v9 v18 v25 v43 => 
  κ .normal (V10.mk v0 v1 v6 v5 v6 v7 v9 v18 v25 v43) S)
/-- strings.explode -/
def c52 (C : Callee) (n : Nat) : Cd V10 := seqK (c52_0 C) (seqK (c52_1 C) (seqK (seqK (c52_2 C) (condK c52_3 (c52_4 C) (skipK))) (seqK (c52_5 C) (seqK (seqK (c52_6 C) (blockK 0 (loopK n (c52_13 C n)))) (seqK (seqK (c52_14 C) (condK c52_15 (c52_16 C) (skipK))) (seqK (c52_17 C) (retK)))))))
def r52 (v : V10) (S : AW) : R := (V10.casesOn v fun v0 v1 v4 v5 v6 v7 v9 v18 v25 v43 => some (v4, S))
def g52 (C : Callee) (n : Nat) (args : List Value) (S : AW) : R := c52 C n (V10.mk (argV args 0) (argV args 1) (argV args 4) (argV args 5) (argV args 6) (argV args 7) (argV args 9) (argV args 18) (argV args 25) (argV args 43)) S fun o v S => EX.casesOn o (r52 v S) (fun _ => none) (r52 v S)
/-! strings.Count -/
def c53_0 (C : Callee) : Cd V8 := fun v S κ => (V8.casesOn v fun v0 v1 v4 v5 v6 v9 v15 v24 => 
  κ .normal (V8.mk v0 v1 (.int .i64 0) v5 v6 v9 v15 v24) S)
def c53_1 (C : Callee) : Cd V8 := fun v S κ => (V8.casesOn v fun v0 v1 v4 v5 v6 v9 v15 v24 => 
  kLen true v1 S fun v25 S25 =>
  kBin .eql v25 (.int .i64 0) S25 fun v26 S26 =>
  κ .normal (V8.mk v0 v1 v4 v5 v6 v26 v15 v24) S26)
def c53_2 : V8 → Value := fun v => (V8.casesOn v fun v0 v1 v4 v5 v6 v9 v15 v24 => v9)
def c53_3 (C : Callee) : Cd V8 := fun v S κ => (V8.casesOn v fun v0 v1 v4 v5 v6 v9 v15 v24 => 
  kCall C 79 [v0] S fun v25 S25 =>
  kBin .add v25 (.int .i64 1) S25 fun v26 S26 =>
  κ .normal (V8.mk v0 v1 v26 v5 v6 v9 v15 v24) S26)
def c53_4 (C : Callee) : Cd V8 := fun v S κ => (V8.casesOn v fun v0 v1 v4 v5 v6 v9 v15 v24 => 
  kLen true v1 S fun v25 S25 =>
  kBin .eql v25 (.int .i64 1) S25 fun v26 S26 =>
  κ .normal (V8.mk v0 v1 v4 v5 v6 v9 v26 v24) S26)
def c53_5 : V8 → Value := fun v => (V8.casesOn v fun v0 v1 v4 v5 v6 v9 v15 v24 => v15)
def c53_6 (C : Callee) : Cd V8 := fun v S κ => (V8.casesOn v fun v0 v1 v4 v5 v6 v9 v15 v24 => 
  kIdxS v1 (.int .i64 0) S fun v25 S25 =>
  kCall C 81 [v0, v25] S25 fun v26 S26 =>
  κ .normal (V8.mk v0 v1 v26 v5 v6 v9 v15 v24) S26)
def c53_7 (C : Callee) : Cd V8 := fun v S κ => (V8.casesOn v fun v0 v1 v4 v5 v6 v9 v15 v24 => 
  κ .normal (V8.mk v0 v1 v4 (.int .i64 0) v6 v9 v15 v24) S)
def c53_8 (C : Callee) : Cd V8 := fun v S κ => (V8.casesOn v fun v0 v1 v4 v5 v6 v9 v15 v24 => 
  kCall C 54 [v0, v1] S fun v25 S25 =>
  κ .normal (V8.mk v0 v1 v4 v5 v25 v9 v15 v24) S25)
def c53_9 (C : Callee) : Cd V8 := fun v S κ => (V8.casesOn v fun v0 v1 v4 v5 v6 v9 v15 v24 => 
  kBin .eql v6 (.int .i64 (-1)) S fun v25 S25 =>
  κ .normal (V8.mk v0 v1 v4 v5 v6 v9 v15 v25) S25)
def c53_10 : V8 → Value := fun v => (V8.casesOn v fun v0 v1 v4 v5 v6 v9 v15 v24 => v24)
def c53_11 (C : Callee) : Cd V8 := fun v S κ => (V8.casesOn v fun v0 v1 v4 v5 v6 v9 v15 v24 => 
  κ .normal (V8.mk v0 v1 v5 v5 v6 v9 v15 v24) S)
def c53_12 (C : Callee) : Cd V8 := fun v S κ => (V8.casesOn v fun v0 v1 v4 v5 v6 v9 v15 v24 => 
  kBin .add v5 (.int .i64 1) S fun v25 S25 =>
  κ .normal (V8.mk v0 v1 v4 v25 v6 v9 v15 v24) S25)
def c53_13 (C : Callee) : Cd V8 := fun v S κ => (V8.casesOn v fun v0 v1 v4 v5 v6 v9 v15 v24 => 
  kLen true v1 S fun v25 S25 =>
  kBin .add v6 v25 S25 fun v26 S26 =>
  kSlS v0 (some v26) none S26 fun v27 S27 =>
  κ .normal (V8.mk v27 v1 v4 v5 v6 v9 v15 v24) S27)
def c53_14 (C : Callee) (n : Nat) : Cd V8 := blockK 1 (seqK (c53_8 C) (seqK (seqK (c53_9 C) (condK c53_10 (seqK (c53_11 C) (retK)) (skipK))) (seqK (c53_12 C) (c53_13 C))))
/-- strings.Count -/
def c53 (C : Callee) (n : Nat) : Cd V8 := seqK (c53_0 C) (seqK (seqK (c53_1 C) (condK c53_2 (seqK (c53_3 C) (retK)) (skipK))) (seqK (seqK (c53_4 C) (condK c53_5 (seqK (c53_6 C) (retK)) (skipK))) (seqK (c53_7 C) (blockK 0 (loopK n (c53_14 C n))))))
def r53 (v : V8) (S : AW) : R := (V8.casesOn v fun v0 v1 v4 v5 v6 v9 v15 v24 => some (v4, S))
def g53 (C : Callee) (n : Nat) (args : List Value) (S : AW) : R := c53 C n (V8.mk (argV args 0) (argV args 1) (argV args 4) (argV args 5) (argV args 6) (argV args 9) (argV args 15) (argV args 24)) S fun o v S => EX.casesOn o (r53 v S) (fun _ => none) (r53 v S)
/-! strings.Index -/
def c54_0 (C : Callee) : Cd V3 := fun v S κ => (V3.casesOn v fun v0 v1 v4 => 
  κ .normal (V3.mk v0 v1 (.int .i64 0)) S)
def c54_1 (C : Callee) : Cd V3 := fun v S κ => (V3.casesOn v fun v0 v1 v4 => 
  kCall C 82 [v0, v1] S fun v5 S5 =>
  κ .normal (V3.mk v0 v1 v5) S5)
/-- strings.Index -/
def c54 (C : Callee) (n : Nat) : Cd V3 := seqK (c54_0 C) (seqK (c54_1 C) (retK))
def r54 (v : V3) (S : AW) : R := (V3.casesOn v fun v0 v1 v4 => some (v4, S))
def g54 (C : Callee) (n : Nat) (args : List Value) (S : AW) : R := c54 C n (V3.mk (argV args 0) (argV args 1) (argV args 4)) S fun o v S => EX.casesOn o (r54 v S) (fun _ => none) (r54 v S)
/-! assayer/bundle.Get -/
def c55_0 (C : Callee) : Cd V7 := fun v S κ => (V7.casesOn v fun v0 v1 v2 v4 v5 v6 v19 => 
  kBox 37 2 v0 S fun v20 S20 =>
  kNew 42 3 [.slice none 0 0, .slice none 0 0, .slice none 0 0] S20 fun v21 S21 =>
  κ .normal (V7.mk v0 v1 v20 v21 (.bool false) v6 v19) S21)
def c55_1 (C : Callee) : Cd V7 := fun v S κ => (V7.casesOn v fun v0 v1 v2 v4 v5 v6 v19 => 
  kFad 0 v2 S fun v20 S20 =>
  kLd none v20 S20 fun v21 S21 =>
  kCall C 83 [v21, v1] S21 fun v22 S22 =>
  κ .normal (V7.mk v0 v1 v2 v4 v5 v22 v19) S22)
def c55_2 (C : Callee) : Cd V7 := fun v S κ => (V7.casesOn v fun v0 v1 v2 v4 v5 v6 v19 => 
  kBin .lss v6 (.int .i64 0) S fun v20 S20 =>
  bl v20 fun b => cond b
   (κ .normal (V7.mk v0 v1 v2 v4 v5 v6 (.bool true)) S20)
   (kFad 1 v2 S20 fun v21 S21 =>
   kLd none v21 S21 fun v22 S22 =>
   kLen false v22 S22 fun v23 S23 =>
   kBin .geq v6 v23 S23 fun v24 S24 =>
   κ .normal (V7.mk v0 v1 v2 v4 v5 v6 v24) S24))
def c55_3 : V7 → Value := fun v => (V7.casesOn v fun v0 v1 v2 v4 v5 v6 v19 => v19)
def c55_4 (C : Callee) : Cd V7 := fun v S κ => (V7.casesOn v fun v0 v1 v2 v4 v5 v6 v19 => 
  kBuild [.slice none 0 0, .slice none 0 0, .slice none 0 0] [] S fun v20 S20 =>
  kSt 3 v4 v20 S20 fun v21 S21 =>
  κ .normal (V7.mk v0 v1 v2 v4 (.bool false) v6 v19) S21)
def c55_5 (C : Callee) : Cd V7 := fun v S κ => (V7.casesOn v fun v0 v1 v2 v4 v5 v6 v19 => 
  kFad 1 v2 S fun v20 S20 =>
  kLd none v20 S20 fun v21 S21 =>
  kIad 3 v21 v6 S21 fun v22 S22 =>
  kLd (some 3) v22 S22 fun v23 S23 =>
  kSt 3 v4 v23 S23 fun v24 S24 =>
  κ .normal (V7.mk v0 v1 v2 v4 (.bool true) v6 v19) S24)
/-- assayer/bundle.Get -/
def c55 (C : Callee) (n : Nat) : Cd V7 := seqK (c55_0 C) (seqK (c55_1 C) (seqK (seqK (c55_2 C) (condK c55_3 (seqK (c55_4 C) (retK)) (skipK))) (seqK (c55_5 C) (retK))))
def r55 (v : V7) (S : AW) : R := (V7.casesOn v fun v0 v1 v2 v4 v5 v6 v19 => kLd (some 3) v4 S fun r4 _ => some (.tuple #[r4, v5], S))
def g55 (C : Callee) (n : Nat) (args : List Value) (S : AW) : R := c55 C n (V7.mk (argV args 0) (argV args 1) (argV args 2) (argV args 4) (argV args 5) (argV args 6) (argV args 19)) S fun o v S => EX.casesOn o (r55 v S) (fun _ => none) (r55 v S)
/-! slices.Contains[[]string,string] -/
def c56_0 (C : Callee) : Cd V3 := fun v S κ => (V3.casesOn v fun v0 v1 v4 => 
  κ .normal (V3.mk v0 v1 (.bool false)) S)
def c56_1 (C : Callee) : Cd V3 := fun v S κ => (V3.casesOn v fun v0 v1 v4 => 
  kCall C 83 [v0, v1] S fun v5 S5 =>
  kBin .geq v5 (.int .i64 0) S5 fun v6 S6 =>
  κ .normal (V3.mk v0 v1 v6) S6)
/-- slices.Contains[[]string,string] -/
def c56 (C : Callee) (n : Nat) : Cd V3 := seqK (c56_0 C) (seqK (c56_1 C) (retK))
def r56 (v : V3) (S : AW) : R := (V3.casesOn v fun v0 v1 v4 => some (v4, S))
def g56 (C : Callee) (n : Nat) (args : List Value) (S : AW) : R := c56 C n (V3.mk (argV args 0) (argV args 1) (argV args 4)) S fun o v S => EX.casesOn o (r56 v S) (fun _ => none) (r56 v S)
/-! slices.IndexFunc[[]assayer/api.Member,assayer/api.Member] -/
def c57_0 (C : Callee) : Cd V8 := fun v S κ => (V8.casesOn v fun v0 v1 v4 v5 v7 v8 v9 v16 => 
  κ .normal (V8.mk v0 v1 (.int .i64 0) v5 v7 v8 v9 v16) S)
def c57_1 (C : Callee) : Cd V8 := fun v S κ => (V8.casesOn v fun v0 v1 v4 v5 v7 v8 v9 v16 => 
  kLen false v0 S fun v17 S17 =>
  κ .normal (V8.mk v0 v1 v4 v5 v17 (.int .i64 0) v9 v16) S17)
def c57_2 (C : Callee) : Cd V8 := fun v S κ => (V8.casesOn v fun v0 v1 v4 v5 v7 v8 v9 v16 => 
  kBin .lss v8 v7 S fun v17 S17 =>
  κ .normal (V8.mk v0 v1 v4 v5 v7 v8 v17 v16) S17)
def c57_3 : V8 → Value := fun v => (V8.casesOn v fun v0 v1 v4 v5 v7 v8 v9 v16 => v9)
def c57_4 (C : Callee) : Cd V8 := fun v S κ => (V8.casesOn v fun v0 v1 v4 v5 v7 v8 v9 v16 => 
  κ .normal (V8.mk v0 v1 v4 v8 v7 v8 v9 v16) S)
def c57_5 (C : Callee) : Cd V8 := fun v S κ => (V8.casesOn v fun v0 v1 v4 v5 v7 v8 v9 v16 => 
  kIad 3 v0 v5 S fun v17 S17 =>
  kLd (some 3) v17 S17 fun v18 S18 =>
  kCallV C v1 [v18] S18 fun v19 S19 =>
  κ .normal (V8.mk v0 v1 v4 v5 v7 v8 v9 v19) S19)
def c57_6 : V8 → Value := fun v => (V8.casesOn v fun v0 v1 v4 v5 v7 v8 v9 v16 => v16)
def c57_7 (C : Callee) : Cd V8 := fun v S κ => (V8.casesOn v fun v0 v1 v4 v5 v7 v8 v9 v16 => 
  κ .normal (V8.mk v0 v1 v5 v5 v7 v8 v9 v16) S)
def c57_8 (C : Callee) : Cd V8 := fun v S κ => (V8.casesOn v fun v0 v1 v4 v5 v7 v8 v9 v16 => 
  kBin .add v8 (.int .i64 1) S fun v17 S17 =>
  κ .normal (V8.mk v0 v1 v4 v5 v7 v17 v9 v16) S17)
def c57_9 (C : Callee) (n : Nat) : Cd V8 := seqK (c57_2 C) (seqK (condK c57_3 (skipK) (exitK 0)) (seqK (blockK 1 (seqK (c57_4 C) (seqK (c57_5 C) (condK c57_6 (seqK (c57_7 C) (retK)) (skipK))))) (c57_8 C)))
def c57_10 (C : Callee) : Cd V8 := fun v S κ => (V8.casesOn v fun v0 v1 v4 v5 v7 v8 v9 v16 => 
  κ .normal (V8.mk v0 v1 (.int .i64 (-1)) v5 v7 v8 v9 v16) S)
/-- slices.IndexFunc[[]assayer/api.Member,assayer/api.Member] -/
def c57 (C : Callee) (n : Nat) : Cd V8 := seqK (c57_0 C) (seqK (seqK (c57_1 C) (blockK 0 (loopK n (c57_9 C n)))) (seqK (c57_10 C) (retK)))
def r57 (v : V8) (S : AW) : R := (V8.casesOn v fun v0 v1 v4 v5 v7 v8 v9 v16 => some (v4, S))
def g57 (C : Callee) (n : Nat) (args : List Value) (S : AW) : R := c57 C n (V8.mk (argV args 0) (argV args 1) (argV args 4) (argV args 5) (argV args 7) (argV args 8) (argV args 9) (argV args 16)) S fun o v S => EX.casesOn o (r57 v S) (fun _ => none) (r57 v S)
/-! (*assayer/assayerref5.lexer).space -/
def c58_0 (C : Callee) : Cd V10 := fun v S κ => (V10.casesOn v fun v0 v2 v3 v20 v30 v52 v87 v95 v125 v134 => 
  kNilc v0 S fun v135 S135 =>
  kFad 1 v135 S135 fun v136 S136 =>
  kLd none v136 S136 fun v137 S137 =>
  kNilc v0 S137 fun v138 S138 =>
  kFad 0 v138 S138 fun v139 S139 =>
  kLd none v139 S139 fun v140 S140 =>
  kLen true v140 S140 fun v141 S141 =>
  kBin .lss v137 v141 S141 fun v142 S142 =>
  bl v142 fun b => cond b
   (kNilc v0 S142 fun v143 S143 =>
   kFad 2 v143 S143 fun v144 S144 =>
   kLd none v144 S144 fun v145 S145 =>
   kBin .eql v145 (.int .i64 0) S145 fun v146 S146 =>
   κ .normal (V10.mk v0 v2 v3 v146 v30 v52 v87 v95 v125 v134) S146)
   (κ .normal (V10.mk v0 v2 v3 (.bool false) v30 v52 v87 v95 v125 v134) S142))
def c58_1 : V10 → Value := fun v => (V10.casesOn v fun v0 v2 v3 v20 v30 v52 v87 v95 v125 v134 => v20)
def c58_2 (C : Callee) : Cd V10 := fun v S κ => (V10.casesOn v fun v0 v2 v3 v20 v30 v52 v87 v95 v125 v134 => 
  kNilc v0 S fun v135 S135 =>
  kFad 0 v135 S135 fun v136 S136 =>
  kLd none v136 S136 fun v137 S137 =>
  kNilc v0 S137 fun v138 S138 =>
  kFad 1 v138 S138 fun v139 S139 =>
  kLd none v139 S139 fun v140 S140 =>
  kIdxS v137 v140 S140 fun v141 S141 =>
  κ .normal (V10.mk v0 v141 v3 v20 v30 v52 v87 v95 v125 v134) S141)
def c58_3 (C : Callee) : Cd V10 := fun v S κ => (V10.casesOn v fun v0 v2 v3 v20 v30 v52 v87 v95 v125 v134 => 
  kBin .eql v2 (.int .u8 9) S fun v135 S135 =>
  bl v135 fun b => cond b
   (κ .normal (V10.mk v0 v2 v3 v20 (.bool true) v52 v87 v95 v125 v134) S135)
   (kBin .eql v2 (.int .u8 10) S135 fun v136 S136 =>
   bl v136 fun b => cond b
    (κ .normal (V10.mk v0 v2 v3 v20 (.bool true) v52 v87 v95 v125 v134) S136)
    (kBin .eql v2 (.int .u8 13) S136 fun v137 S137 =>
    bl v137 fun b => cond b
     (κ .normal (V10.mk v0 v2 v3 v20 (.bool true) v52 v87 v95 v125 v134) S137)
     (kBin .eql v2 (.int .u8 32) S137 fun v138 S138 =>
     κ .normal (V10.mk v0 v2 v3 v20 v138 v52 v87 v95 v125 v134) S138))))
def c58_4 : V10 → Value := fun v => (V10.casesOn v fun v0 v2 v3 v20 v30 v52 v87 v95 v125 v134 => v30)
def c58_5 (C : Callee) : Cd V10 := fun v S κ => (V10.casesOn v fun v0 v2 v3 v20 v30 v52 v87 v95 v125 v134 => 
  kNilc v0 S fun v135 S135 =>
  kFad 1 v135 S135 fun v136 S136 =>
  kLd none v136 S136 fun v137 S137 =>
  kBin .add v137 (.int .i64 1) S137 fun v138 S138 =>
  kNilc v0 S138 fun v139 S139 =>
  kFad 1 v139 S139 fun v140 S140 =>
  kSt 1 v140 v138 S140 fun v141 S141 =>
  κ .normal (V10.mk v0 v2 v3 v20 v30 v52 v87 v95 v125 v134) S141)
def c58_6 (C : Callee) : Cd V10 := fun v S κ => (V10.casesOn v fun v0 v2 v3 v20 v30 v52 v87 v95 v125 v134 => 
  kBin .eql v2 (.int .u8 35) S fun v135 S135 =>
  bl v135 fun b => cond b
   (κ .normal (V10.mk v0 v2 v3 v20 v30 (.bool true) v87 v95 v125 v134) S135)
   (kNilc v0 S135 fun v136 S136 =>
   kFad 0 v136 S136 fun v137 S137 =>
   kLd none v137 S137 fun v138 S138 =>
   kNilc v0 S138 fun v139 S139 =>
   kFad 1 v139 S139 fun v140 S140 =>
   kLd none v140 S140 fun v141 S141 =>
   kCall C 84 [v138, v141, (.string ⟨#[47, 47]⟩)] S141 fun v142 S142 =>
   κ .normal (V10.mk v0 v2 v3 v20 v30 v142 v87 v95 v125 v134) S142))
def c58_7 : V10 → Value := fun v => (V10.casesOn v fun v0 v2 v3 v20 v30 v52 v87 v95 v125 v134 => v52)
def c58_8 (C : Callee) : Cd V10 := fun v S κ => (V10.casesOn v fun v0 v2 v3 v20 v30 v52 v87 v95 v125 v134 => 
  kNilc v0 S fun v135 S135 =>
  kFad 1 v135 S135 fun v136 S136 =>
  kLd none v136 S136 fun v137 S137 =>
  kNilc v0 S137 fun v138 S138 =>
  kFad 0 v138 S138 fun v139 S139 =>
  kLd none v139 S139 fun v140 S140 =>
  kLen true v140 S140 fun v141 S141 =>
  kBin .lss v137 v141 S141 fun v142 S142 =>
  bl v142 fun b => cond b
   (kNilc v0 S142 fun v143 S143 =>
   kFad 0 v143 S143 fun v144 S144 =>
   kLd none v144 S144 fun v145 S145 =>
   kNilc v0 S145 fun v146 S146 =>
   kFad 1 v146 S146 fun v147 S147 =>
   kLd none v147 S147 fun v148 S148 =>
   kIdxS v145 v148 S148 fun v149 S149 =>
   kBin .neq v149 (.int .u8 10) S149 fun v150 S150 =>
   κ .normal (V10.mk v0 v2 v3 v20 v30 v52 v150 v95 v125 v134) S150)
   (κ .normal (V10.mk v0 v2 v3 v20 v30 v52 (.bool false) v95 v125 v134) S142))
def c58_9 : V10 → Value := fun v => (V10.casesOn v fun v0 v2 v3 v20 v30 v52 v87 v95 v125 v134 => v87)
def c58_10 (C : Callee) : Cd V10 := fun v S κ => (V10.casesOn v fun v0 v2 v3 v20 v30 v52 v87 v95 v125 v134 => 
  kNilc v0 S fun v135 S135 =>
  kFad 1 v135 S135 fun v136 S136 =>
  kLd none v136 S136 fun v137 S137 =>
  kBin .add v137 (.int .i64 1) S137 fun v138 S138 =>
  kNilc v0 S138 fun v139 S139 =>
  kFad 1 v139 S139 fun v140 S140 =>
  kSt 1 v140 v138 S140 fun v141 S141 =>
  κ .normal (V10.mk v0 v2 v3 v20 v30 v52 v87 v95 v125 v134) S141)
def c58_11 (C : Callee) (n : Nat) : Cd V10 := seqK (seqK (c58_8 C) (condK c58_9 (skipK) (exitK 3))) (blockK 4 (c58_10 C))
def c58_12 (C : Callee) : Cd V10 := fun v S κ => (V10.casesOn v fun v0 v2 v3 v20 v30 v52 v87 v95 v125 v134 => 
  kNilc v0 S fun v135 S135 =>
  kFad 0 v135 S135 fun v136 S136 =>
  kLd none v136 S136 fun v137 S137 =>
  kNilc v0 S137 fun v138 S138 =>
  kFad 1 v138 S138 fun v139 S139 =>
  kLd none v139 S139 fun v140 S140 =>
  kCall C 84 [v137, v140, (.string ⟨#[47, 42]⟩)] S140 fun v141 S141 =>
  κ .normal (V10.mk v0 v2 v3 v20 v30 v52 v87 v141 v125 v134) S141)
def c58_13 : V10 → Value := fun v => (V10.casesOn v fun v0 v2 v3 v20 v30 v52 v87 v95 v125 v134 => v95)
def c58_14 (C : Callee) : Cd V10 := fun v S κ => (V10.casesOn v fun v0 v2 v3 v20 v30 v52 v87 v95 v125 v134 => 
  kNilc v0 S fun v135 S135 =>
  kFad 1 v135 S135 fun v136 S136 =>
  kLd none v136 S136 fun v137 S137 =>
  kBin .add v137 (.int .i64 2) S137 fun v138 S138 =>
  κ .normal (V10.mk v0 v2 v138 v20 v30 v52 v87 v95 v125 v134) S138)
def c58_15 (C : Callee) : Cd V10 := fun v S κ => (V10.casesOn v fun v0 v2 v3 v20 v30 v52 v87 v95 v125 v134 => 
  kNilc v0 S fun v135 S135 =>
  kFad 0 v135 S135 fun v136 S136 =>
  kLd none v136 S136 fun v137 S137 =>
  kLen true v137 S137 fun v138 S138 =>
  kBin .lss v3 v138 S138 fun v139 S139 =>
  bl v139 fun b => cond b
   (kNilc v0 S139 fun v140 S140 =>
   kFad 0 v140 S140 fun v141 S141 =>
   kLd none v141 S141 fun v142 S142 =>
   kCall C 84 [v142, v3, (.string ⟨#[42, 47]⟩)] S142 fun v143 S143 =>
   kUn .not v143 S143 fun v144 S144 =>
   κ .normal (V10.mk v0 v2 v3 v20 v30 v52 v87 v95 v144 v134) S144)
   (κ .normal (V10.mk v0 v2 v3 v20 v30 v52 v87 v95 (.bool false) v134) S139))
def c58_16 : V10 → Value := fun v => (V10.casesOn v fun v0 v2 v3 v20 v30 v52 v87 v95 v125 v134 => v125)
def c58_17 (C : Callee) : Cd V10 := fun v S κ => (V10.casesOn v fun v0 v2 v3 v20 v30 v52 v87 v95 v125 v134 => 
  kBin .add v3 (.int .i64 1) S fun v135 S135 =>
  κ .normal (V10.mk v0 v2 v135 v20 v30 v52 v87 v95 v125 v134) S135)
def c58_18 (C : Callee) (n : Nat) : Cd V10 := seqK (seqK (c58_15 C) (condK c58_16 (skipK) (exitK 5))) (blockK 6 (c58_17 C))
def c58_19 (C : Callee) : Cd V10 := fun v S κ => (V10.casesOn v fun v0 v2 v3 v20 v30 v52 v87 v95 v125 v134 => 
  kNilc v0 S fun v135 S135 =>
  kFad 0 v135 S135 fun v136 S136 =>
  kLd none v136 S136 fun v137 S137 =>
  kLen true v137 S137 fun v138 S138 =>
  kBin .geq v3 v138 S138 fun v139 S139 =>
  κ .normal (V10.mk v0 v2 v3 v20 v30 v52 v87 v95 v125 v139) S139)
def c58_20 : V10 → Value := fun v => (V10.casesOn v fun v0 v2 v3 v20 v30 v52 v87 v95 v125 v134 => v134)
def c58_21 (C : Callee) : Cd V10 := fun v S κ => (V10.casesOn v fun v0 v2 v3 v20 v30 v52 v87 v95 v125 v134 => 
  kNilc v0 S fun v135 S135 =>
  kFad 1 v135 S135 fun v136 S136 =>
  kLd none v136 S136 fun v137 S137 =>
  kCall C 85 [v0, (.int .i64 2), v137] S137 fun v138 S138 =>
  κ .normal (V10.mk v0 v2 v3 v20 v30 v52 v87 v95 v125 v134) S138)
def c58_22 (C : Callee) : Cd V10 := fun v S κ => (V10.casesOn v fun v0 v2 v3 v20 v30 v52 v87 v95 v125 v134 => 
  kBin .add v3 (.int .i64 2) S fun v135 S135 =>
  kNilc v0 S135 fun v136 S136 =>
  kFad 1 v136 S136 fun v137 S137 =>
  kSt 1 v137 v135 S137 fun v138 S138 =>
  κ .normal (V10.mk v0 v2 v3 v20 v30 v52 v87 v95 v125 v134) S138)
def c58_23 (C : Callee) (n : Nat) : Cd V10 := seqK (seqK (c58_0 C) (condK c58_1 (skipK) (exitK 0))) (blockK 1 (seqK (c58_2 C) (blockK 2 (seqK (c58_3 C) (condK c58_4 (c58_5 C) (seqK (c58_6 C) (condK c58_7 (blockK 3 (loopK n (c58_11 C n))) (seqK (c58_12 C) (condK c58_13 (seqK (c58_14 C) (seqK (blockK 5 (loopK n (c58_18 C n))) (seqK (seqK (c58_19 C) (condK c58_20 (seqK (c58_21 C) (retK)) (skipK))) (c58_22 C)))) (retK))))))))))
/-- (*assayer/assayerref5.lexer).space -/
def c58 (C : Callee) (n : Nat) : Cd V10 := blockK 0 (loopK n (c58_23 C n))
def r58 (v : V10) (S : AW) : R := (V10.casesOn v fun v0 v2 v3 v20 v30 v52 v87 v95 v125 v134 => some (.tuple #[], S))
def g58 (C : Callee) (n : Nat) (args : List Value) (S : AW) : R := c58 C n (V10.mk (argV args 0) (argV args 2) (argV args 3) (argV args 20) (argV args 30) (argV args 52) (argV args 87) (argV args 95) (argV args 125) (argV args 134)) S fun o v S => EX.casesOn o (r58 v S) (fun _ => none) (r58 v S)
/-! (*assayer/assayerref5.lexer).word -/
def c59_0 (C : Callee) : Cd V18 := fun v S κ => (V18.casesOn v fun v0 v2 v3 v4 v5 v6 v7 v18 v34 v43 v49 v67 v72 v83 v115 v118 v152 v170 => 
  kNew 118 5 [.int .i64 0, .string ⟨#[]⟩, .int .i64 0, .int .u64 0, .int .i64 0] S fun v171 S171 =>
  κ .normal (V18.mk v0 v171 v3 v4 v5 v6 v7 v18 v34 v43 v49 v67 v72 v83 v115 v118 v152 v170) S171)
def c59_1 (C : Callee) : Cd V18 := fun v S κ => (V18.casesOn v fun v0 v2 v3 v4 v5 v6 v7 v18 v34 v43 v49 v67 v72 v83 v115 v118 v152 v170 => 
  kNilc v0 S fun v171 S171 =>
  kFad 1 v171 S171 fun v172 S172 =>
  kLd none v172 S172 fun v173 S173 =>
  κ .normal (V18.mk v0 v2 v173 v4 v5 v6 v7 v18 v34 v43 v49 v67 v72 v83 v115 v118 v152 v170) S173)
def c59_2 (C : Callee) : Cd V18 := fun v S κ => (V18.casesOn v fun v0 v2 v3 v4 v5 v6 v7 v18 v34 v43 v49 v67 v72 v83 v115 v118 v152 v170 => 
  kNilc v0 S fun v171 S171 =>
  kFad 0 v171 S171 fun v172 S172 =>
  kLd none v172 S172 fun v173 S173 =>
  kLen true v173 S173 fun v174 S174 =>
  kBin .eql v3 v174 S174 fun v175 S175 =>
  κ .normal (V18.mk v0 v2 v3 v4 v5 v6 v7 v175 v34 v43 v49 v67 v72 v83 v115 v118 v152 v170) S175)
def c59_3 : V18 → Value := fun v => (V18.casesOn v fun v0 v2 v3 v4 v5 v6 v7 v18 v34 v43 v49 v67 v72 v83 v115 v118 v152 v170 => v18)
def c59_4 (C : Callee) : Cd V18 := fun v S κ => (V18.casesOn v fun v0 v2 v3 v4 v5 v6 v7 v18 v34 v43 v49 v67 v72 v83 v115 v118 v152 v170 => 
  kBuild [.int .i64 0, .string ⟨#[]⟩, .int .i64 0, .int .u64 0, .int .i64 0] [(0, 1, (.int .i64 6)), (4, 1, v3)] S fun v171 S171 =>
  kSt 5 v2 v171 S171 fun v172 S172 =>
  κ .normal (V18.mk v0 v2 v3 v4 v5 v6 v7 v18 v34 v43 v49 v67 v72 v83 v115 v118 v152 v170) S172)
def c59_5 (C : Callee) : Cd V18 := fun v S κ => (V18.casesOn v fun v0 v2 v3 v4 v5 v6 v7 v18 v34 v43 v49 v67 v72 v83 v115 v118 v152 v170 => 
  kNilc v0 S fun v171 S171 =>
  kFad 0 v171 S171 fun v172 S172 =>
  kLd none v172 S172 fun v173 S173 =>
  kIdxS v173 v3 S173 fun v174 S174 =>
  κ .normal (V18.mk v0 v2 v3 v174 v5 v6 v7 v18 v34 v43 v49 v67 v72 v83 v115 v118 v152 v170) S174)
def c59_6 (C : Callee) : Cd V18 := fun v S κ => (V18.casesOn v fun v0 v2 v3 v4 v5 v6 v7 v18 v34 v43 v49 v67 v72 v83 v115 v118 v152 v170 => 
  κ .normal (V18.mk v0 v2 v3 v4 (.int .u8 0) v6 v7 v18 v34 v43 v49 v67 v72 v83 v115 v118 v152 v170) S)
def c59_7 (C : Callee) : Cd V18 := fun v S κ => (V18.casesOn v fun v0 v2 v3 v4 v5 v6 v7 v18 v34 v43 v49 v67 v72 v83 v115 v118 v152 v170 => 
  kBin .add v3 (.int .i64 1) S fun v171 S171 =>
  kNilc v0 S171 fun v172 S172 =>
  kFad 0 v172 S172 fun v173 S173 =>
  kLd none v173 S173 fun v174 S174 =>
  kLen true v174 S174 fun v175 S175 =>
  kBin .lss v171 v175 S175 fun v176 S176 =>
  κ .normal (V18.mk v0 v2 v3 v4 v5 v6 v7 v18 v176 v43 v49 v67 v72 v83 v115 v118 v152 v170) S176)
def c59_8 : V18 → Value := fun v => (V18.casesOn v fun v0 v2 v3 v4 v5 v6 v7 v18 v34 v43 v49 v67 v72 v83 v115 v118 v152 v170 => v34)
def c59_9 (C : Callee) : Cd V18 := fun v S κ => (V18.casesOn v fun v0 v2 v3 v4 v5 v6 v7 v18 v34 v43 v49 v67 v72 v83 v115 v118 v152 v170 => 
  kNilc v0 S fun v171 S171 =>
  kFad 0 v171 S171 fun v172 S172 =>
  kLd none v172 S172 fun v173 S173 =>
  kBin .add v3 (.int .i64 1) S173 fun v174 S174 =>
  kIdxS v173 v174 S174 fun v175 S175 =>
  κ .normal (V18.mk v0 v2 v3 v4 v175 v6 v7 v18 v34 v43 v49 v67 v72 v83 v115 v118 v152 v170) S175)
def c59_10 (C : Callee) : Cd V18 := fun v S κ => (V18.casesOn v fun v0 v2 v3 v4 v5 v6 v7 v18 v34 v43 v49 v67 v72 v83 v115 v118 v152 v170 => 
  kCall C 26 [v4] S fun v171 S171 =>
  κ .normal (V18.mk v0 v2 v3 v4 v5 v6 v7 v18 v34 v43 v49 v171 v72 v83 v115 v118 v152 v170) S171)
def c59_11 : V18 → Value := fun v => (V18.casesOn v fun v0 v2 v3 v4 v5 v6 v7 v18 v34 v43 v49 v67 v72 v83 v115 v118 v152 v170 => v67)
def c59_12 (C : Callee) : Cd V18 := fun v S κ => (V18.casesOn v fun v0 v2 v3 v4 v5 v6 v7 v18 v34 v43 v49 v67 v72 v83 v115 v118 v152 v170 => 
  kCall C 86 [v0] S fun v171 S171 =>
  kSt 5 v2 v171 S171 fun v172 S172 =>
  κ .normal (V18.mk v0 v2 v3 v4 v5 v6 v7 v18 v34 v43 v49 v67 v72 v83 v115 v118 v152 v170) S172)
def c59_13 (C : Callee) : Cd V18 := fun v S κ => (V18.casesOn v fun v0 v2 v3 v4 v5 v6 v7 v18 v34 v43 v49 v67 v72 v83 v115 v118 v152 v170 => 
  kCall C 28 [v4] S fun v171 S171 =>
  κ .normal (V18.mk v0 v2 v3 v4 v5 v6 v7 v18 v34 v43 v49 v67 v171 v83 v115 v118 v152 v170) S171)
def c59_14 : V18 → Value := fun v => (V18.casesOn v fun v0 v2 v3 v4 v5 v6 v7 v18 v34 v43 v49 v67 v72 v83 v115 v118 v152 v170 => v72)
def c59_15 (C : Callee) : Cd V18 := fun v S κ => (V18.casesOn v fun v0 v2 v3 v4 v5 v6 v7 v18 v34 v43 v49 v67 v72 v83 v115 v118 v152 v170 => 
  kBin .eql v4 (.int .u8 46) S fun v171 S171 =>
  bl v171 fun b => cond b
   (kCall C 28 [v5] S171 fun v172 S172 =>
   κ .normal (V18.mk v0 v2 v3 v4 v5 v6 v7 v18 v34 v43 v49 v67 v172 v83 v115 v118 v152 v170) S172)
   (κ .normal (V18.mk v0 v2 v3 v4 v5 v6 v7 v18 v34 v43 v49 v67 (.bool false) v83 v115 v118 v152 v170) S171))
def c59_16 : V18 → Value := fun v => (V18.casesOn v fun v0 v2 v3 v4 v5 v6 v7 v18 v34 v43 v49 v67 v72 v83 v115 v118 v152 v170 => v72)
def c59_17 (C : Callee) : Cd V18 := fun v S κ => (V18.casesOn v fun v0 v2 v3 v4 v5 v6 v7 v18 v34 v43 v49 v67 v72 v83 v115 v118 v152 v170 => 
  kCall C 87 [v0] S fun v171 S171 =>
  kSt 5 v2 v171 S171 fun v172 S172 =>
  κ .normal (V18.mk v0 v2 v3 v4 v5 v6 v7 v18 v34 v43 v49 v67 v72 v83 v115 v118 v152 v170) S172)
def c59_18 (C : Callee) : Cd V18 := fun v S κ => (V18.casesOn v fun v0 v2 v3 v4 v5 v6 v7 v18 v34 v43 v49 v67 v72 v83 v115 v118 v152 v170 => 
  kBin .eql v4 (.int .u8 43) S fun v171 S171 =>
  bl v171 fun b => cond b
   (κ .normal (V18.mk v0 v2 v3 v4 v5 v6 v7 v18 v34 v43 v49 v67 v72 (.bool true) v115 v118 v152 v170) S171)
   (kBin .eql v4 (.int .u8 45) S171 fun v172 S172 =>
   κ .normal (V18.mk v0 v2 v3 v4 v5 v6 v7 v18 v34 v43 v49 v67 v72 v172 v115 v118 v152 v170) S172))
def c59_19 : V18 → Value := fun v => (V18.casesOn v fun v0 v2 v3 v4 v5 v6 v7 v18 v34 v43 v49 v67 v72 v83 v115 v118 v152 v170 => v83)
def c59_20 (C : Callee) : Cd V18 := fun v S κ => (V18.casesOn v fun v0 v2 v3 v4 v5 v6 v7 v18 v34 v43 v49 v67 v72 v83 v115 v118 v152 v170 => 
  kCall C 28 [v5] S fun v171 S171 =>
  bl v171 fun b => cond b
   (κ .normal (V18.mk v0 v2 v3 v4 v5 v6 v7 v18 v34 v43 v49 v67 v72 v83 (.bool true) v118 v152 v170) S171)
   (kBin .eql v5 (.int .u8 46) S171 fun v172 S172 =>
   bl v172 fun b => cond b
    (kBin .add v3 (.int .i64 2) S172 fun v173 S173 =>
    kNilc v0 S173 fun v174 S174 =>
    kFad 0 v174 S174 fun v175 S175 =>
    kLd none v175 S175 fun v176 S176 =>
    kLen true v176 S176 fun v177 S177 =>
    kBin .lss v173 v177 S177 fun v178 S178 =>
    bl v178 fun b => cond b
     (kNilc v0 S178 fun v179 S179 =>
     kFad 0 v179 S179 fun v180 S180 =>
     kLd none v180 S180 fun v181 S181 =>
     kBin .add v3 (.int .i64 2) S181 fun v182 S182 =>
     kIdxS v181 v182 S182 fun v183 S183 =>
     kCall C 28 [v183] S183 fun v184 S184 =>
     κ .normal (V18.mk v0 v2 v3 v4 v5 v6 v7 v18 v34 v43 v49 v67 v72 v83 v184 v118 v152 v170) S184)
     (κ .normal (V18.mk v0 v2 v3 v4 v5 v6 v7 v18 v34 v43 v49 v67 v72 v83 (.bool false) v118 v152 v170) S178))
    (κ .normal (V18.mk v0 v2 v3 v4 v5 v6 v7 v18 v34 v43 v49 v67 v72 v83 (.bool false) v118 v152 v170) S172)))
def c59_21 : V18 → Value := fun v => (V18.casesOn v fun v0 v2 v3 v4 v5 v6 v7 v18 v34 v43 v49 v67 v72 v83 v115 v118 v152 v170 => v115)
def c59_22 (C : Callee) : Cd V18 := fun v S κ => (V18.casesOn v fun v0 v2 v3 v4 v5 v6 v7 v18 v34 v43 v49 v67 v72 v83 v115 v118 v152 v170 => 
  kCall C 87 [v0] S fun v171 S171 =>
  kSt 5 v2 v171 S171 fun v172 S172 =>
  κ .normal (V18.mk v0 v2 v3 v4 v5 v6 v7 v18 v34 v43 v49 v67 v72 v83 v115 v118 v152 v170) S172)
def c59_23 (C : Callee) : Cd V18 := fun v S κ => (V18.casesOn v fun v0 v2 v3 v4 v5 v6 v7 v18 v34 v43 v49 v67 v72 v83 v115 v118 v152 v170 => 
  kBin .eql v4 (.int .u8 34) S fun v171 S171 =>
  bl v171 fun b => cond b
   (κ .normal (V18.mk v0 v2 v3 v4 v5 v6 v7 v18 v34 v43 v49 v67 v72 v83 v115 (.bool true) v152 v170) S171)
   (kBin .eql v4 (.int .u8 39) S171 fun v172 S172 =>
   κ .normal (V18.mk v0 v2 v3 v4 v5 v6 v7 v18 v34 v43 v49 v67 v72 v83 v115 v172 v152 v170) S172))
def c59_24 : V18 → Value := fun v => (V18.casesOn v fun v0 v2 v3 v4 v5 v6 v7 v18 v34 v43 v49 v67 v72 v83 v115 v118 v152 v170 => v118)
def c59_25 (C : Callee) : Cd V18 := fun v S κ => (V18.casesOn v fun v0 v2 v3 v4 v5 v6 v7 v18 v34 v43 v49 v67 v72 v83 v115 v118 v152 v170 => 
  kBin .add v3 (.int .i64 1) S fun v171 S171 =>
  κ .normal (V18.mk v0 v2 v3 v4 v5 v171 v7 v18 v34 v43 v49 v67 v72 v83 v115 v118 v152 v170) S171)
def c59_26 (C : Callee) : Cd V18 := fun v S κ => (V18.casesOn v fun v0 v2 v3 v4 v5 v6 v7 v18 v34 v43 v49 v67 v72 v83 v115 v118 v152 v170 => 
  kNilc v0 S fun v171 S171 =>
  kFad 0 v171 S171 fun v172 S172 =>
  kLd none v172 S172 fun v173 S173 =>
  kLen true v173 S173 fun v174 S174 =>
  kBin .lss v6 v174 S174 fun v175 S175 =>
  bl v175 fun b => cond b
   (kNilc v0 S175 fun v176 S176 =>
   kFad 0 v176 S176 fun v177 S177 =>
   kLd none v177 S177 fun v178 S178 =>
   kIdxS v178 v6 S178 fun v179 S179 =>
   kBin .neq v179 v4 S179 fun v180 S180 =>
   bl v180 fun b => cond b
    (kNilc v0 S180 fun v181 S181 =>
    kFad 0 v181 S181 fun v182 S182 =>
    kLd none v182 S182 fun v183 S183 =>
    kIdxS v183 v6 S183 fun v184 S184 =>
    kBin .neq v184 (.int .u8 10) S184 fun v185 S185 =>
    κ .normal (V18.mk v0 v2 v3 v4 v5 v6 v7 v18 v34 v43 v49 v67 v72 v83 v115 v118 v185 v170) S185)
    (κ .normal (V18.mk v0 v2 v3 v4 v5 v6 v7 v18 v34 v43 v49 v67 v72 v83 v115 v118 (.bool false) v170) S180))
   (κ .normal (V18.mk v0 v2 v3 v4 v5 v6 v7 v18 v34 v43 v49 v67 v72 v83 v115 v118 (.bool false) v170) S175))
def c59_27 : V18 → Value := fun v => (V18.casesOn v fun v0 v2 v3 v4 v5 v6 v7 v18 v34 v43 v49 v67 v72 v83 v115 v118 v152 v170 => v152)
def c59_28 (C : Callee) : Cd V18 := fun v S κ => (V18.casesOn v fun v0 v2 v3 v4 v5 v6 v7 v18 v34 v43 v49 v67 v72 v83 v115 v118 v152 v170 => 
  kBin .add v6 (.int .i64 1) S fun v171 S171 =>
  κ .normal (V18.mk v0 v2 v3 v4 v5 v171 v7 v18 v34 v43 v49 v67 v72 v83 v115 v118 v152 v170) S171)
def c59_29 (C : Callee) (n : Nat) : Cd V18 := seqK (seqK (c59_26 C) (condK c59_27 (skipK) (exitK 3))) (blockK 4 (c59_28 C))
def c59_30 (C : Callee) : Cd V18 := fun v S κ => (V18.casesOn v fun v0 v2 v3 v4 v5 v6 v7 v18 v34 v43 v49 v67 v72 v83 v115 v118 v152 v170 => 
  kNilc v0 S fun v171 S171 =>
  kFad 0 v171 S171 fun v172 S172 =>
  kLd none v172 S172 fun v173 S173 =>
  kLen true v173 S173 fun v174 S174 =>
  kBin .eql v6 v174 S174 fun v175 S175 =>
  bl v175 fun b => cond b
   (κ .normal (V18.mk v0 v2 v3 v4 v5 v6 v7 v18 v34 v43 v49 v67 v72 v83 v115 v118 v152 (.bool true)) S175)
   (kNilc v0 S175 fun v176 S176 =>
   kFad 0 v176 S176 fun v177 S177 =>
   kLd none v177 S177 fun v178 S178 =>
   kIdxS v178 v6 S178 fun v179 S179 =>
   kBin .eql v179 (.int .u8 10) S179 fun v180 S180 =>
   κ .normal (V18.mk v0 v2 v3 v4 v5 v6 v7 v18 v34 v43 v49 v67 v72 v83 v115 v118 v152 v180) S180))
def c59_31 : V18 → Value := fun v => (V18.casesOn v fun v0 v2 v3 v4 v5 v6 v7 v18 v34 v43 v49 v67 v72 v83 v115 v118 v152 v170 => v170)
def c59_32 (C : Callee) : Cd V18 := fun v S κ => (V18.casesOn v fun v0 v2 v3 v4 v5 v6 v7 v18 v34 v43 v49 v67 v72 v83 v115 v118 v152 v170 => 
  kCall C 85 [v0, (.int .i64 2), v3] S fun v171 S171 =>
  κ .normal (V18.mk v0 v2 v3 v4 v5 v6 v7 v18 v34 v43 v49 v67 v72 v83 v115 v118 v152 v170) S171)
def c59_33 (C : Callee) : Cd V18 := fun v S κ => (V18.casesOn v fun v0 v2 v3 v4 v5 v6 v7 v18 v34 v43 v49 v67 v72 v83 v115 v118 v152 v170 => 
  kBuild [.int .i64 0, .string ⟨#[]⟩, .int .i64 0, .int .u64 0, .int .i64 0] [] S fun v171 S171 =>
  kSt 5 v2 v171 S171 fun v172 S172 =>
  κ .normal (V18.mk v0 v2 v3 v4 v5 v6 v7 v18 v34 v43 v49 v67 v72 v83 v115 v118 v152 v170) S172)
def c59_34 (C : Callee) : Cd V18 := fun v S κ => (V18.casesOn v fun v0 v2 v3 v4 v5 v6 v7 v18 v34 v43 v49 v67 v72 v83 v115 v118 v152 v170 => 
  kBin .add v6 (.int .i64 1) S fun v171 S171 =>
  kNilc v0 S171 fun v172 S172 =>
  kFad 1 v172 S172 fun v173 S173 =>
  kSt 1 v173 v171 S173 fun v174 S174 =>
  κ .normal (V18.mk v0 v2 v3 v4 v5 v6 v7 v18 v34 v43 v49 v67 v72 v83 v115 v118 v152 v170) S174)
def c59_35 (C : Callee) : Cd V18 := fun v S κ => (V18.casesOn v fun v0 v2 v3 v4 v5 v6 v7 v18 v34 v43 v49 v67 v72 v83 v115 v118 v152 v170 => 
  kNilc v0 S fun v171 S171 =>
  kFad 0 v171 S171 fun v172 S172 =>
  kLd none v172 S172 fun v173 S173 =>
  kBin .add v3 (.int .i64 1) S173 fun v174 S174 =>
  kSlS v173 (some v174) (some v6) S174 fun v175 S175 =>
  kBuild [.int .i64 0, .string ⟨#[]⟩, .int .i64 0, .int .u64 0, .int .i64 0] [(0, 1, (.int .i64 4)), (1, 1, v175), (4, 1, v3)] S175 fun v176 S176 =>
  kSt 5 v2 v176 S176 fun v177 S177 =>
  κ .normal (V18.mk v0 v2 v3 v4 v5 v6 v7 v18 v34 v43 v49 v67 v72 v83 v115 v118 v152 v170) S177)
def c59_36 (C : Callee) : Cd V18 := fun v S κ => (V18.casesOn v fun v0 v2 v3 v4 v5 v6 v7 v18 v34 v43 v49 v67 v72 v83 v115 v118 v152 v170 => 
  κ .normal (V18.mk v0 v2 v3 v4 v5 v6 (.int .i64 0) v18 v34 v43 v49 v67 v72 v83 v115 v118 v152 v170) S)
def c59_37 (C : Callee) : Cd V18 := fun v S κ => (V18.casesOn v fun v0 v2 v3 v4 v5 v6 v7 v18 v34 v43 v49 v67 v72 v83 v115 v118 v152 v170 => 
  kBin .lss v7 (.int .i64 13) S fun v171 S171 =>
  κ .normal (V18.mk v0 v2 v3 v4 v5 v6 v7 v18 v34 v171 v49 v67 v72 v83 v115 v118 v152 v170) S171)
def c59_38 : V18 → Value := fun v => (V18.casesOn v fun v0 v2 v3 v4 v5 v6 v7 v18 v34 v43 v49 v67 v72 v83 v115 v118 v152 v170 => v43)
def c59_39 (C : Callee) : Cd V18 := fun v S κ => (V18.casesOn v fun v0 v2 v3 v4 v5 v6 v7 v18 v34 v43 v49 v67 v72 v83 v115 v118 v152 v170 => 
  kIdxS (.string ⟨#[123, 125, 40, 41, 91, 93, 60, 62, 44, 59, 58, 61, 42]⟩) v7 S fun v171 S171 =>
  kBin .eql v171 v4 S171 fun v172 S172 =>
  κ .normal (V18.mk v0 v2 v3 v4 v5 v6 v7 v18 v34 v43 v172 v67 v72 v83 v115 v118 v152 v170) S172)
def c59_40 : V18 → Value := fun v => (V18.casesOn v fun v0 v2 v3 v4 v5 v6 v7 v18 v34 v43 v49 v67 v72 v83 v115 v118 v152 v170 => v49)
def c59_41 (C : Callee) : Cd V18 := fun v S κ => (V18.casesOn v fun v0 v2 v3 v4 v5 v6 v7 v18 v34 v43 v49 v67 v72 v83 v115 v118 v152 v170 => 
  kNilc v0 S fun v171 S171 =>
  kFad 1 v171 S171 fun v172 S172 =>
  kLd none v172 S172 fun v173 S173 =>
  kBin .add v173 (.int .i64 1) S173 fun v174 S174 =>
  kNilc v0 S174 fun v175 S175 =>
  kFad 1 v175 S175 fun v176 S176 =>
  kSt 1 v176 v174 S176 fun v177 S177 =>
  κ .normal (V18.mk v0 v2 v3 v4 v5 v6 v7 v18 v34 v43 v49 v67 v72 v83 v115 v118 v152 v170) S177)
def c59_42 (C : Callee) : Cd V18 := fun v S κ => (V18.casesOn v fun v0 v2 v3 v4 v5 v6 v7 v18 v34 v43 v49 v67 v72 v83 v115 v118 v152 v170 => 
  kNilc v0 S fun v171 S171 =>
  kFad 0 v171 S171 fun v172 S172 =>
  kLd none v172 S172 fun v173 S173 =>
  kBin .add v3 (.int .i64 1) S173 fun v174 S174 =>
  kSlS v173 (some v3) (some v174) S174 fun v175 S175 =>
  kBuild [.int .i64 0, .string ⟨#[]⟩, .int .i64 0, .int .u64 0, .int .i64 0] [(0, 1, (.int .i64 5)), (1, 1, v175), (4, 1, v3)] S175 fun v176 S176 =>
  kSt 5 v2 v176 S176 fun v177 S177 =>
  κ .normal (V18.mk v0 v2 v3 v4 v5 v6 v7 v18 v34 v43 v49 v67 v72 v83 v115 v118 v152 v170) S177)
def c59_43 (C : Callee) : Cd V18 := fun v S κ => (V18.casesOn v fun v0 v2 v3 v4 v5 v6 v7 v18 v34 v43 v49 v67 v72 v83 v115 v118 v152 v170 => 
  kBin .add v7 (.int .i64 1) S fun v171 S171 =>
  κ .normal (V18.mk v0 v2 v3 v4 v5 v6 v171 v18 v34 v43 v49 v67 v72 v83 v115 v118 v152 v170) S171)
def c59_44 (C : Callee) (n : Nat) : Cd V18 := seqK (seqK (c59_37 C) (condK c59_38 (skipK) (exitK 1))) (seqK (blockK 2 (seqK (c59_39 C) (condK c59_40 (seqK (c59_41 C) (seqK (c59_42 C) (retK))) (skipK)))) (c59_43 C))
def c59_45 (C : Callee) : Cd V18 := fun v S κ => (V18.casesOn v fun v0 v2 v3 v4 v5 v6 v7 v18 v34 v43 v49 v67 v72 v83 v115 v118 v152 v170 => 
  kCall C 85 [v0, (.int .i64 2), v3] S fun v171 S171 =>
  κ .normal (V18.mk v0 v2 v3 v4 v5 v6 v7 v18 v34 v43 v49 v67 v72 v83 v115 v118 v152 v170) S171)
def c59_46 (C : Callee) : Cd V18 := fun v S κ => (V18.casesOn v fun v0 v2 v3 v4 v5 v6 v7 v18 v34 v43 v49 v67 v72 v83 v115 v118 v152 v170 => 
  kBuild [.int .i64 0, .string ⟨#[]⟩, .int .i64 0, .int .u64 0, .int .i64 0] [] S fun v171 S171 =>
  kSt 5 v2 v171 S171 fun v172 S172 =>
  κ .normal (V18.mk v0 v2 v3 v4 v5 v6 v7 v18 v34 v43 v49 v67 v72 v83 v115 v118 v152 v170) S172)
/-- (*assayer/assayerref5.lexer).word -/
def c59 (C : Callee) (n : Nat) : Cd V18 := seqK (c59_0 C) (seqK (c59_1 C) (seqK (seqK (c59_2 C) (condK c59_3 (seqK (c59_4 C) (retK)) (skipK))) (seqK (c59_5 C) (seqK (c59_6 C) (seqK (seqK (c59_7 C) (condK c59_8 (c59_9 C) (skipK))) (seqK (blockK 0 (seqK (c59_10 C) (condK c59_11 (seqK (c59_12 C) (retK)) (seqK (seqK (c59_13 C) (condK c59_14 (skipK) (c59_15 C))) (condK c59_16 (seqK (c59_17 C) (retK)) (seqK (c59_18 C) (condK c59_19 (seqK (c59_20 C) (condK c59_21 (seqK (c59_22 C) (retK)) (skipK))) (seqK (c59_23 C) (condK c59_24 (seqK (c59_25 C) (seqK (blockK 3 (loopK n (c59_29 C n))) (seqK (seqK (c59_30 C) (condK c59_31 (seqK (c59_32 C) (seqK (c59_33 C) (retK))) (skipK))) (seqK (c59_34 C) (seqK (c59_35 C) (retK)))))) (seqK (c59_36 C) (blockK 1 (loopK n (c59_44 C n))))))))))))) (seqK (c59_45 C) (seqK (c59_46 C) (retK)))))))))
def r59 (v : V18) (S : AW) : R := (V18.casesOn v fun v0 v2 v3 v4 v5 v6 v7 v18 v34 v43 v49 v67 v72 v83 v115 v118 v152 v170 => kLd (some 5) v2 S fun r2 _ => some (r2, S))
def g59 (C : Callee) (n : Nat) (args : List Value) (S : AW) : R := c59 C n (V18.mk (argV args 0) (argV args 2) (argV args 3) (argV args 4) (argV args 5) (argV args 6) (argV args 7) (argV args 18) (argV args 34) (argV args 43) (argV args 49) (argV args 67) (argV args 72) (argV args 83) (argV args 115) (argV args 118) (argV args 152) (argV args 170)) S fun o v S => EX.casesOn o (r59 v S) (fun _ => none) (r59 v S)
/-! (*assayer/assayerref5.parser).word -/
def c60_0 (C : Callee) : Cd V3 := fun v S κ => (V3.casesOn v fun v0 v1 v4 => 
  κ .normal (V3.mk v0 v1 (.bool false)) S)
def c60_1 (C : Callee) : Cd V3 := fun v S κ => (V3.casesOn v fun v0 v1 v4 => 
  kNilc v0 S fun v5 S5 =>
  kFad 2 v5 S5 fun v6 S6 =>
  kLd none v6 S6 fun v7 S7 =>
  kBin .eql v7 (.int .i64 0) S7 fun v8 S8 =>
  bl v8 fun b => cond b
   (kCall C 44 [v0] S8 fun v9 S9 =>
   kFld none 0 v9 S9 fun v10 S10 =>
   kBin .eql v10 (.int .i64 1) S10 fun v11 S11 =>
   bl v11 fun b => cond b
    (kCall C 44 [v0] S11 fun v12 S12 =>
    kFld none 1 v12 S12 fun v13 S13 =>
    kBin .eql v13 v1 S13 fun v14 S14 =>
    κ .normal (V3.mk v0 v1 v14) S14)
    (κ .normal (V3.mk v0 v1 (.bool false)) S11))
   (κ .normal (V3.mk v0 v1 (.bool false)) S8))
/-- (*assayer/assayerref5.parser).word -/
def c60 (C : Callee) (n : Nat) : Cd V3 := seqK (c60_0 C) (seqK (c60_1 C) (retK))
def r60 (v : V3) (S : AW) : R := (V3.casesOn v fun v0 v1 v4 => some (v4, S))
def g60 (C : Callee) (n : Nat) (args : List Value) (S : AW) : R := c60 C n (V3.mk (argV args 0) (argV args 1) (argV args 4)) S fun o v S => EX.casesOn o (r60 v S) (fun _ => none) (r60 v S)
/-! (*assayer/assayerref5.parser).took -/
def c61_0 (C : Callee) : Cd V4 := fun v S κ => (V4.casesOn v fun v0 v1 v4 v7 => 
  κ .normal (V4.mk v0 v1 (.bool false) v7) S)
def c61_1 (C : Callee) : Cd V4 := fun v S κ => (V4.casesOn v fun v0 v1 v4 v7 => 
  kCall C 60 [v0, v1] S fun v8 S8 =>
  κ .normal (V4.mk v0 v1 v4 v8) S8)
def c61_2 : V4 → Value := fun v => (V4.casesOn v fun v0 v1 v4 v7 => v7)
def c61_3 (C : Callee) : Cd V4 := fun v S κ => (V4.casesOn v fun v0 v1 v4 v7 => 
  kCall C 62 [v0] S fun v8 S8 =>
  κ .normal (V4.mk v0 v1 v4 v7) S8)
def c61_4 (C : Callee) : Cd V4 := fun v S κ => (V4.casesOn v fun v0 v1 v4 v7 => 
  κ .normal (V4.mk v0 v1 (.bool true) v7) S)
def c61_5 (C : Callee) : Cd V4 := fun v S κ => (V4.casesOn v fun v0 v1 v4 v7 => 
  κ .normal (V4.mk v0 v1 (.bool false) v7) S)
/-- (*assayer/assayerref5.parser).took -/
def c61 (C : Callee) (n : Nat) : Cd V4 := seqK (c61_0 C) (seqK (seqK (c61_1 C) (condK c61_2 (seqK (c61_3 C) (seqK (c61_4 C) (retK))) (skipK))) (seqK (c61_5 C) (retK)))
def r61 (v : V4) (S : AW) : R := (V4.casesOn v fun v0 v1 v4 v7 => some (v4, S))
def g61 (C : Callee) (n : Nat) (args : List Value) (S : AW) : R := c61 C n (V4.mk (argV args 0) (argV args 1) (argV args 4) (argV args 7)) S fun o v S => EX.casesOn o (r61 v S) (fun _ => none) (r61 v S)
/-! (*assayer/assayerref5.parser).next -/
def c62_0 (C : Callee) : Cd V1 := fun v S κ => (V1.casesOn v fun v0 => 
  kNilc v0 S fun v1 S1 =>
  kFad 1 v1 S1 fun v2 S2 =>
  kLd none v2 S2 fun v3 S3 =>
  kBin .add v3 (.int .i64 1) S3 fun v4 S4 =>
  kNilc v0 S4 fun v5 S5 =>
  kFad 1 v5 S5 fun v6 S6 =>
  kSt 1 v6 v4 S6 fun v7 S7 =>
  κ .normal (V1.mk v0) S7)
/-- (*assayer/assayerref5.parser).next -/
def c62 (C : Callee) (n : Nat) : Cd V1 := c62_0 C
def r62 (v : V1) (S : AW) : R := (V1.casesOn v fun v0 => some (.tuple #[], S))
def g62 (C : Callee) (n : Nat) (args : List Value) (S : AW) : R := c62 C n (V1.mk (argV args 0)) S fun o v S => EX.casesOn o (r62 v S) (fun _ => none) (r62 v S)
/-! (*assayer/assayerref5.parser).skip -/
def c63_0 (C : Callee) : Cd V4 := fun v S κ => (V4.casesOn v fun v0 v1 v4 v7 => 
  κ .normal (V4.mk v0 v1 (.bool false) v7) S)
def c63_1 (C : Callee) : Cd V4 := fun v S κ => (V4.casesOn v fun v0 v1 v4 v7 => 
  kCall C 88 [v0, v1] S fun v8 S8 =>
  κ .normal (V4.mk v0 v1 v4 v8) S8)
def c63_2 : V4 → Value := fun v => (V4.casesOn v fun v0 v1 v4 v7 => v7)
def c63_3 (C : Callee) : Cd V4 := fun v S κ => (V4.casesOn v fun v0 v1 v4 v7 => 
  kCall C 62 [v0] S fun v8 S8 =>
  κ .normal (V4.mk v0 v1 v4 v7) S8)
def c63_4 (C : Callee) : Cd V4 := fun v S κ => (V4.casesOn v fun v0 v1 v4 v7 => 
  κ .normal (V4.mk v0 v1 (.bool true) v7) S)
def c63_5 (C : Callee) : Cd V4 := fun v S κ => (V4.casesOn v fun v0 v1 v4 v7 => 
  κ .normal (V4.mk v0 v1 (.bool false) v7) S)
/-- (*assayer/assayerref5.parser).skip -/
def c63 (C : Callee) (n : Nat) : Cd V4 := seqK (c63_0 C) (seqK (seqK (c63_1 C) (condK c63_2 (seqK (c63_3 C) (seqK (c63_4 C) (retK))) (skipK))) (seqK (c63_5 C) (retK)))
def r63 (v : V4) (S : AW) : R := (V4.casesOn v fun v0 v1 v4 v7 => some (v4, S))
def g63 (C : Callee) (n : Nat) (args : List Value) (S : AW) : R := c63 C n (V4.mk (argV args 0) (argV args 1) (argV args 4) (argV args 7)) S fun o v S => EX.casesOn o (r63 v S) (fun _ => none) (r63 v S)
/-! (*assayer/assayerref5.parser).far -/
def c64_0 (C : Callee) : Cd V4 := fun v S κ => (V4.casesOn v fun v0 v2 v3 v21 => 
  κ .normal (V4.mk v0 (.string ⟨#[]⟩) v3 v21) S)
def c64_1 (C : Callee) : Cd V4 := fun v S κ => (V4.casesOn v fun v0 v2 v3 v21 => 
  kCall C 44 [v0] S fun v22 S22 =>
  kNew 118 5 [.int .i64 0, .string ⟨#[]⟩, .int .i64 0, .int .u64 0, .int .i64 0] S22 fun v23 S23 =>
  kSt 5 v23 v22 S23 fun v24 S24 =>
  κ .normal (V4.mk v0 v2 v23 v21) S24)
def c64_2 (C : Callee) : Cd V4 := fun v S κ => (V4.casesOn v fun v0 v2 v3 v21 => 
  kNilc v0 S fun v22 S22 =>
  kFad 2 v22 S22 fun v23 S23 =>
  kLd none v23 S23 fun v24 S24 =>
  kBin .neq v24 (.int .i64 0) S24 fun v25 S25 =>
  bl v25 fun b => cond b
   (κ .normal (V4.mk v0 v2 v3 (.bool true)) S25)
   (kFad 0 v3 S25 fun v26 S26 =>
   kLd none v26 S26 fun v27 S27 =>
   kBin .neq v27 (.int .i64 1) S27 fun v28 S28 =>
   bl v28 fun b => cond b
    (κ .normal (V4.mk v0 v2 v3 (.bool true)) S28)
    (kFad 1 v3 S28 fun v29 S29 =>
    kLd none v29 S29 fun v30 S30 =>
    kCall C 89 [v30] S30 fun v31 S31 =>
    kUn .not v31 S31 fun v32 S32 =>
    κ .normal (V4.mk v0 v2 v3 v32) S32)))
def c64_3 : V4 → Value := fun v => (V4.casesOn v fun v0 v2 v3 v21 => v21)
def c64_4 (C : Callee) : Cd V4 := fun v S κ => (V4.casesOn v fun v0 v2 v3 v21 => 
  kCall C 46 [v0, (.int .i64 2)] S fun v22 S22 =>
  κ .normal (V4.mk v0 v2 v3 v21) S22)
def c64_5 (C : Callee) : Cd V4 := fun v S κ => (V4.casesOn v fun v0 v2 v3 v21 => 
  κ .normal (V4.mk v0 (.string ⟨#[]⟩) v3 v21) S)
def c64_6 (C : Callee) : Cd V4 := fun v S κ => (V4.casesOn v fun v0 v2 v3 v21 => 
  kCall C 62 [v0] S fun v22 S22 =>
  κ .normal (V4.mk v0 v2 v3 v21) S22)
def c64_7 (C : Callee) : Cd V4 := fun v S κ => (V4.casesOn v fun v0 v2 v3 v21 => 
  kFad 1 v3 S fun v22 S22 =>
  kLd none v22 S22 fun v23 S23 =>
  κ .normal (V4.mk v0 v23 v3 v21) S23)
/-- (*assayer/assayerref5.parser).far -/
def c64 (C : Callee) (n : Nat) : Cd V4 := seqK (c64_0 C) (seqK (c64_1 C) (seqK (seqK (c64_2 C) (condK c64_3 (seqK (c64_4 C) (seqK (c64_5 C) (retK))) (skipK))) (seqK (c64_6 C) (seqK (c64_7 C) (retK)))))
def r64 (v : V4) (S : AW) : R := (V4.casesOn v fun v0 v2 v3 v21 => some (v2, S))
def g64 (C : Callee) (n : Nat) (args : List Value) (S : AW) : R := c64 C n (V4.mk (argV args 0) (argV args 2) (argV args 3) (argV args 21)) S fun o v S => EX.casesOn o (r64 v S) (fun _ => none) (r64 v S)
/-! (*assayer/assayerref5.parser).typ -/
def c65_0 (C : Callee) : Cd V13 := fun v S κ => (V13.casesOn v fun v0 v1 v4 v5 v6 v7 v8 v20 v26 v32 v37 v53 v65 => 
  κ .normal (V13.mk v0 v1 (.string ⟨#[]⟩) v5 v6 v7 v8 v20 v26 v32 v37 v53 v65) S)
def c65_1 (C : Callee) : Cd V13 := fun v S κ => (V13.casesOn v fun v0 v1 v4 v5 v6 v7 v8 v20 v26 v32 v37 v53 v65 => 
  kCall C 44 [v0] S fun v66 S66 =>
  kNew 118 5 [.int .i64 0, .string ⟨#[]⟩, .int .i64 0, .int .u64 0, .int .i64 0] S66 fun v67 S67 =>
  kSt 5 v67 v66 S67 fun v68 S68 =>
  κ .normal (V13.mk v0 v1 v4 v67 v6 v7 v8 v20 v26 v32 v37 v53 v65) S68)
def c65_2 (C : Callee) : Cd V13 := fun v S κ => (V13.casesOn v fun v0 v1 v4 v5 v6 v7 v8 v20 v26 v32 v37 v53 v65 => 
  kNilc v0 S fun v66 S66 =>
  kFad 2 v66 S66 fun v67 S67 =>
  kLd none v67 S67 fun v68 S68 =>
  kBin .neq v68 (.int .i64 0) S68 fun v69 S69 =>
  bl v69 fun b => cond b
   (κ .normal (V13.mk v0 v1 v4 v5 v6 v7 v8 (.bool true) v26 v32 v37 v53 v65) S69)
   (kFad 0 v5 S69 fun v70 S70 =>
   kLd none v70 S70 fun v71 S71 =>
   kBin .neq v71 (.int .i64 1) S71 fun v72 S72 =>
   κ .normal (V13.mk v0 v1 v4 v5 v6 v7 v8 v72 v26 v32 v37 v53 v65) S72))
def c65_3 : V13 → Value := fun v => (V13.casesOn v fun v0 v1 v4 v5 v6 v7 v8 v20 v26 v32 v37 v53 v65 => v20)
def c65_4 (C : Callee) : Cd V13 := fun v S κ => (V13.casesOn v fun v0 v1 v4 v5 v6 v7 v8 v20 v26 v32 v37 v53 v65 => 
  kCall C 46 [v0, (.int .i64 2)] S fun v66 S66 =>
  κ .normal (V13.mk v0 v1 v4 v5 v6 v7 v8 v20 v26 v32 v37 v53 v65) S66)
def c65_5 (C : Callee) : Cd V13 := fun v S κ => (V13.casesOn v fun v0 v1 v4 v5 v6 v7 v8 v20 v26 v32 v37 v53 v65 => 
  κ .normal (V13.mk v0 v1 (.string ⟨#[]⟩) v5 v6 v7 v8 v20 v26 v32 v37 v53 v65) S)
def c65_6 (C : Callee) : Cd V13 := fun v S κ => (V13.casesOn v fun v0 v1 v4 v5 v6 v7 v8 v20 v26 v32 v37 v53 v65 => 
  kFad 1 v5 S fun v66 S66 =>
  kLd none v66 S66 fun v67 S67 =>
  kCall C 41 [v67] S67 fun v68 S68 =>
  κ .normal (V13.mk v0 v1 v4 v5 v68 v7 v8 v20 v26 v32 v37 v53 v65) S68)
def c65_7 (C : Callee) : Cd V13 := fun v S κ => (V13.casesOn v fun v0 v1 v4 v5 v6 v7 v8 v20 v26 v32 v37 v53 v65 => 
  kFad 1 v5 S fun v66 S66 =>
  kLd none v66 S66 fun v67 S67 =>
  kBin .eql v67 (.string ⟨#[98, 121, 116, 101]⟩) S67 fun v68 S68 =>
  κ .normal (V13.mk v0 v1 v4 v5 v6 v7 v8 v20 v68 v32 v37 v53 v65) S68)
def c65_8 : V13 → Value := fun v => (V13.casesOn v fun v0 v1 v4 v5 v6 v7 v8 v20 v26 v32 v37 v53 v65 => v26)
def c65_9 (C : Callee) : Cd V13 := fun v S κ => (V13.casesOn v fun v0 v1 v4 v5 v6 v7 v8 v20 v26 v32 v37 v53 v65 => 
  kCall C 62 [v0] S fun v66 S66 =>
  κ .normal (V13.mk v0 v1 v4 v5 v6 v7 v8 v20 v26 v32 v37 v53 v65) S66)
def c65_10 (C : Callee) : Cd V13 := fun v S κ => (V13.casesOn v fun v0 v1 v4 v5 v6 v7 v8 v20 v26 v32 v37 v53 v65 => 
  κ .normal (V13.mk v0 v1 (.string ⟨#[105, 56]⟩) v5 v6 v7 v8 v20 v26 v32 v37 v53 v65) S)
def c65_11 (C : Callee) : Cd V13 := fun v S κ => (V13.casesOn v fun v0 v1 v4 v5 v6 v7 v8 v20 v26 v32 v37 v53 v65 => 
  kBin .eql v6 (.int .i64 0) S fun v66 S66 =>
  κ .normal (V13.mk v0 v1 v4 v5 v6 v7 v8 v20 v26 v66 v37 v53 v65) S66)
def c65_12 : V13 → Value := fun v => (V13.casesOn v fun v0 v1 v4 v5 v6 v7 v8 v20 v26 v32 v37 v53 v65 => v32)
def c65_13 (C : Callee) : Cd V13 := fun v S κ => (V13.casesOn v fun v0 v1 v4 v5 v6 v7 v8 v20 v26 v32 v37 v53 v65 => 
  kCall C 64 [v0] S fun v66 S66 =>
  κ .normal (V13.mk v0 v1 v66 v5 v6 v7 v8 v20 v26 v32 v37 v53 v65) S66)
def c65_14 (C : Callee) : Cd V13 := fun v S κ => (V13.casesOn v fun v0 v1 v4 v5 v6 v7 v8 v20 v26 v32 v37 v53 v65 => 
  kBin .neq v6 (.int .i64 15) S fun v66 S66 =>
  bl v66 fun b => cond b
   (kBin .neq v6 (.int .i64 14) S66 fun v67 S67 =>
   bl v67 fun b => cond b
    (kBin .neq v6 (.int .i64 13) S67 fun v68 S68 =>
    κ .normal (V13.mk v0 v1 v4 v5 v6 v7 v8 v20 v26 v32 v68 v53 v65) S68)
    (κ .normal (V13.mk v0 v1 v4 v5 v6 v7 v8 v20 v26 v32 (.bool false) v53 v65) S67))
   (κ .normal (V13.mk v0 v1 v4 v5 v6 v7 v8 v20 v26 v32 (.bool false) v53 v65) S66))
def c65_15 : V13 → Value := fun v => (V13.casesOn v fun v0 v1 v4 v5 v6 v7 v8 v20 v26 v32 v37 v53 v65 => v37)
def c65_16 (C : Callee) : Cd V13 := fun v S κ => (V13.casesOn v fun v0 v1 v4 v5 v6 v7 v8 v20 v26 v32 v37 v53 v65 => 
  kCall C 62 [v0] S fun v66 S66 =>
  κ .normal (V13.mk v0 v1 v4 v5 v6 v7 v8 v20 v26 v32 v37 v53 v65) S66)
def c65_17 (C : Callee) : Cd V13 := fun v S κ => (V13.casesOn v fun v0 v1 v4 v5 v6 v7 v8 v20 v26 v32 v37 v53 v65 => 
  kFad 1 v5 S fun v66 S66 =>
  kLd none v66 S66 fun v67 S67 =>
  κ .normal (V13.mk v0 v1 v67 v5 v6 v7 v8 v20 v26 v32 v37 v53 v65) S67)
def c65_18 (C : Callee) : Cd V13 := fun v S κ => (V13.casesOn v fun v0 v1 v4 v5 v6 v7 v8 v20 v26 v32 v37 v53 v65 => 
  kBin .gtr v1 (.int .i64 12) S fun v66 S66 =>
  κ .normal (V13.mk v0 v1 v4 v5 v6 v7 v8 v20 v26 v32 v37 v66 v65) S66)
def c65_19 : V13 → Value := fun v => (V13.casesOn v fun v0 v1 v4 v5 v6 v7 v8 v20 v26 v32 v37 v53 v65 => v53)
def c65_20 (C : Callee) : Cd V13 := fun v S κ => (V13.casesOn v fun v0 v1 v4 v5 v6 v7 v8 v20 v26 v32 v37 v53 v65 => 
  kCall C 46 [v0, (.int .i64 6)] S fun v66 S66 =>
  κ .normal (V13.mk v0 v1 v4 v5 v6 v7 v8 v20 v26 v32 v37 v53 v65) S66)
def c65_21 (C : Callee) : Cd V13 := fun v S κ => (V13.casesOn v fun v0 v1 v4 v5 v6 v7 v8 v20 v26 v32 v37 v53 v65 => 
  κ .normal (V13.mk v0 v1 (.string ⟨#[]⟩) v5 v6 v7 v8 v20 v26 v32 v37 v53 v65) S)
def c65_22 (C : Callee) : Cd V13 := fun v S κ => (V13.casesOn v fun v0 v1 v4 v5 v6 v7 v8 v20 v26 v32 v37 v53 v65 => 
  kCall C 62 [v0] S fun v66 S66 =>
  κ .normal (V13.mk v0 v1 v4 v5 v6 v7 v8 v20 v26 v32 v37 v53 v65) S66)
def c65_23 (C : Callee) : Cd V13 := fun v S κ => (V13.casesOn v fun v0 v1 v4 v5 v6 v7 v8 v20 v26 v32 v37 v53 v65 => 
  kCall C 67 [v0, (.string ⟨#[60]⟩)] S fun v66 S66 =>
  κ .normal (V13.mk v0 v1 v4 v5 v6 v7 v8 v20 v26 v32 v37 v53 v65) S66)
def c65_24 (C : Callee) : Cd V13 := fun v S κ => (V13.casesOn v fun v0 v1 v4 v5 v6 v7 v8 v20 v26 v32 v37 v53 v65 => 
  kBin .add v1 (.int .i64 1) S fun v66 S66 =>
  kCall C 65 [v0, v66] S66 fun v67 S67 =>
  κ .normal (V13.mk v0 v1 v4 v5 v6 v67 (.string ⟨#[]⟩) v20 v26 v32 v37 v53 v65) S67)
def c65_25 (C : Callee) : Cd V13 := fun v S κ => (V13.casesOn v fun v0 v1 v4 v5 v6 v7 v8 v20 v26 v32 v37 v53 v65 => 
  kBin .eql v6 (.int .i64 13) S fun v66 S66 =>
  κ .normal (V13.mk v0 v1 v4 v5 v6 v7 v8 v20 v26 v32 v37 v53 v66) S66)
def c65_26 : V13 → Value := fun v => (V13.casesOn v fun v0 v1 v4 v5 v6 v7 v8 v20 v26 v32 v37 v53 v65 => v65)
def c65_27 (C : Callee) : Cd V13 := fun v S κ => (V13.casesOn v fun v0 v1 v4 v5 v6 v7 v8 v20 v26 v32 v37 v53 v65 => 
  kCall C 67 [v0, (.string ⟨#[44]⟩)] S fun v66 S66 =>
  κ .normal (V13.mk v0 v1 v4 v5 v6 v7 v8 v20 v26 v32 v37 v53 v65) S66)
def c65_28 (C : Callee) : Cd V13 := fun v S κ => (V13.casesOn v fun v0 v1 v4 v5 v6 v7 v8 v20 v26 v32 v37 v53 v65 => 
  kBin .add v1 (.int .i64 1) S fun v66 S66 =>
  kCall C 65 [v0, v66] S66 fun v67 S67 =>
  κ .normal (V13.mk v0 v1 v4 v5 v6 v7 v67 v20 v26 v32 v37 v53 v65) S67)
def c65_29 (C : Callee) : Cd V13 := fun v S κ => (V13.casesOn v fun v0 v1 v4 v5 v6 v7 v8 v20 v26 v32 v37 v53 v65 => 
  kCall C 67 [v0, (.string ⟨#[62]⟩)] S fun v66 S66 =>
  κ .normal (V13.mk v0 v1 v4 v5 v6 v7 v8 v20 v26 v32 v37 v53 v65) S66)
def c65_30 (C : Callee) : Cd V13 := fun v S κ => (V13.casesOn v fun v0 v1 v4 v5 v6 v7 v8 v20 v26 v32 v37 v53 v65 => 
  kCall C 90 [v6, (.string ⟨#[]⟩), v7, v8] S fun v66 S66 =>
  κ .normal (V13.mk v0 v1 v66 v5 v6 v7 v8 v20 v26 v32 v37 v53 v65) S66)
/-- (*assayer/assayerref5.parser).typ -/
def c65 (C : Callee) (n : Nat) : Cd V13 := seqK (c65_0 C) (seqK (c65_1 C) (seqK (seqK (c65_2 C) (condK c65_3 (seqK (c65_4 C) (seqK (c65_5 C) (retK))) (skipK))) (seqK (c65_6 C) (seqK (blockK 0 (seqK (c65_7 C) (condK c65_8 (seqK (c65_9 C) (seqK (c65_10 C) (retK))) (seqK (c65_11 C) (condK c65_12 (seqK (c65_13 C) (retK)) (seqK (c65_14 C) (condK c65_15 (seqK (c65_16 C) (seqK (c65_17 C) (retK))) (skipK)))))))) (seqK (seqK (c65_18 C) (condK c65_19 (seqK (c65_20 C) (seqK (c65_21 C) (retK))) (skipK))) (seqK (c65_22 C) (seqK (c65_23 C) (seqK (c65_24 C) (seqK (seqK (c65_25 C) (condK c65_26 (seqK (c65_27 C) (c65_28 C)) (skipK))) (seqK (c65_29 C) (seqK (c65_30 C) (retK))))))))))))
def r65 (v : V13) (S : AW) : R := (V13.casesOn v fun v0 v1 v4 v5 v6 v7 v8 v20 v26 v32 v37 v53 v65 => some (v4, S))
def g65 (C : Callee) (n : Nat) (args : List Value) (S : AW) : R := c65 C n (V13.mk (argV args 0) (argV args 1) (argV args 4) (argV args 5) (argV args 6) (argV args 7) (argV args 8) (argV args 20) (argV args 26) (argV args 32) (argV args 37) (argV args 53) (argV args 65)) S fun o v S => EX.casesOn o (r65 v S) (fun _ => none) (r65 v S)
/-! (*assayer/assayerref5.parser).plain -/
def c66_0 (C : Callee) : Cd V4 := fun v S κ => (V4.casesOn v fun v0 v2 v3 v21 => 
  κ .normal (V4.mk v0 (.string ⟨#[]⟩) v3 v21) S)
def c66_1 (C : Callee) : Cd V4 := fun v S κ => (V4.casesOn v fun v0 v2 v3 v21 => 
  kCall C 44 [v0] S fun v22 S22 =>
  kNew 118 5 [.int .i64 0, .string ⟨#[]⟩, .int .i64 0, .int .u64 0, .int .i64 0] S22 fun v23 S23 =>
  kSt 5 v23 v22 S23 fun v24 S24 =>
  κ .normal (V4.mk v0 v2 v23 v21) S24)
def c66_2 (C : Callee) : Cd V4 := fun v S κ => (V4.casesOn v fun v0 v2 v3 v21 => 
  kNilc v0 S fun v22 S22 =>
  kFad 2 v22 S22 fun v23 S23 =>
  kLd none v23 S23 fun v24 S24 =>
  kBin .neq v24 (.int .i64 0) S24 fun v25 S25 =>
  bl v25 fun b => cond b
   (κ .normal (V4.mk v0 v2 v3 (.bool true)) S25)
   (kFad 0 v3 S25 fun v26 S26 =>
   kLd none v26 S26 fun v27 S27 =>
   kBin .neq v27 (.int .i64 1) S27 fun v28 S28 =>
   bl v28 fun b => cond b
    (κ .normal (V4.mk v0 v2 v3 (.bool true)) S28)
    (kFad 1 v3 S28 fun v29 S29 =>
    kLd none v29 S29 fun v30 S30 =>
    kCall C 15 [v30] S30 fun v31 S31 =>
    kUn .not v31 S31 fun v32 S32 =>
    κ .normal (V4.mk v0 v2 v3 v32) S32)))
def c66_3 : V4 → Value := fun v => (V4.casesOn v fun v0 v2 v3 v21 => v21)
def c66_4 (C : Callee) : Cd V4 := fun v S κ => (V4.casesOn v fun v0 v2 v3 v21 => 
  kCall C 46 [v0, (.int .i64 2)] S fun v22 S22 =>
  κ .normal (V4.mk v0 v2 v3 v21) S22)
def c66_5 (C : Callee) : Cd V4 := fun v S κ => (V4.casesOn v fun v0 v2 v3 v21 => 
  κ .normal (V4.mk v0 (.string ⟨#[]⟩) v3 v21) S)
def c66_6 (C : Callee) : Cd V4 := fun v S κ => (V4.casesOn v fun v0 v2 v3 v21 => 
  kCall C 62 [v0] S fun v22 S22 =>
  κ .normal (V4.mk v0 v2 v3 v21) S22)
def c66_7 (C : Callee) : Cd V4 := fun v S κ => (V4.casesOn v fun v0 v2 v3 v21 => 
  kFad 1 v3 S fun v22 S22 =>
  kLd none v22 S22 fun v23 S23 =>
  κ .normal (V4.mk v0 v23 v3 v21) S23)
/-- (*assayer/assayerref5.parser).plain -/
def c66 (C : Callee) (n : Nat) : Cd V4 := seqK (c66_0 C) (seqK (c66_1 C) (seqK (seqK (c66_2 C) (condK c66_3 (seqK (c66_4 C) (seqK (c66_5 C) (retK))) (skipK))) (seqK (c66_6 C) (seqK (c66_7 C) (retK)))))
def r66 (v : V4) (S : AW) : R := (V4.casesOn v fun v0 v2 v3 v21 => some (v2, S))
def g66 (C : Callee) (n : Nat) (args : List Value) (S : AW) : R := c66 C n (V4.mk (argV args 0) (argV args 2) (argV args 3) (argV args 21)) S fun o v S => EX.casesOn o (r66 v S) (fun _ => none) (r66 v S)
/-! (*assayer/assayerref5.parser).need -/
def c67_0 (C : Callee) : Cd V3 := fun v S κ => (V3.casesOn v fun v0 v1 v7 => 
  kCall C 88 [v0, v1] S fun v8 S8 =>
  kUn .not v8 S8 fun v9 S9 =>
  κ .normal (V3.mk v0 v1 v9) S9)
def c67_1 : V3 → Value := fun v => (V3.casesOn v fun v0 v1 v7 => v7)
def c67_2 (C : Callee) : Cd V3 := fun v S κ => (V3.casesOn v fun v0 v1 v7 => 
  kCall C 46 [v0, (.int .i64 2)] S fun v8 S8 =>
  κ .normal (V3.mk v0 v1 v7) S8)
def c67_3 (C : Callee) : Cd V3 := fun v S κ => (V3.casesOn v fun v0 v1 v7 => 
  kCall C 62 [v0] S fun v8 S8 =>
  κ .normal (V3.mk v0 v1 v7) S8)
/-- (*assayer/assayerref5.parser).need -/
def c67 (C : Callee) (n : Nat) : Cd V3 := seqK (seqK (c67_0 C) (condK c67_1 (seqK (c67_2 C) (retK)) (skipK))) (c67_3 C)
def r67 (v : V3) (S : AW) : R := (V3.casesOn v fun v0 v1 v7 => some (.tuple #[], S))
def g67 (C : Callee) (n : Nat) (args : List Value) (S : AW) : R := c67 C n (V3.mk (argV args 0) (argV args 1) (argV args 7)) S fun o v S => EX.casesOn o (r67 v S) (fun _ => none) (r67 v S)
/-! (*assayer/assayerref5.parser).constant -/
def c68_0 (C : Callee) : Cd V11 := fun v S κ => (V11.casesOn v fun v0 v1 v4 v5 v12 v14 v23 v32 v41 v53 v60 => 
  kNew 46 5 [.int .i64 0, .int .i64 0, .int .u64 0, .string ⟨#[]⟩, .slice none 0 0] S fun v61 S61 =>
  κ .normal (V11.mk v0 v1 v61 v5 v12 v14 v23 v32 v41 v53 v60) S61)
def c68_1 (C : Callee) : Cd V11 := fun v S κ => (V11.casesOn v fun v0 v1 v4 v5 v12 v14 v23 v32 v41 v53 v60 => 
  kCall C 44 [v0] S fun v61 S61 =>
  kNew 118 5 [.int .i64 0, .string ⟨#[]⟩, .int .i64 0, .int .u64 0, .int .i64 0] S61 fun v62 S62 =>
  kSt 5 v62 v61 S62 fun v63 S63 =>
  κ .normal (V11.mk v0 v1 v4 v62 v12 v14 v23 v32 v41 v53 v60) S63)
def c68_2 (C : Callee) : Cd V11 := fun v S κ => (V11.casesOn v fun v0 v1 v4 v5 v12 v14 v23 v32 v41 v53 v60 => 
  kNilc v0 S fun v61 S61 =>
  kFad 2 v61 S61 fun v62 S62 =>
  kLd none v62 S62 fun v63 S63 =>
  kBin .neq v63 (.int .i64 0) S63 fun v64 S64 =>
  κ .normal (V11.mk v0 v1 v4 v5 v64 v14 v23 v32 v41 v53 v60) S64)
def c68_3 : V11 → Value := fun v => (V11.casesOn v fun v0 v1 v4 v5 v12 v14 v23 v32 v41 v53 v60 => v12)
def c68_4 (C : Callee) : Cd V11 := fun v S κ => (V11.casesOn v fun v0 v1 v4 v5 v12 v14 v23 v32 v41 v53 v60 => 
  kBuild [.int .i64 0, .int .i64 0, .int .u64 0, .string ⟨#[]⟩, .slice none 0 0] [] S fun v61 S61 =>
  kSt 5 v4 v61 S61 fun v62 S62 =>
  κ .normal (V11.mk v0 v1 v4 v5 v12 v14 v23 v32 v41 v53 v60) S62)
def c68_5 (C : Callee) : Cd V11 := fun v S κ => (V11.casesOn v fun v0 v1 v4 v5 v12 v14 v23 v32 v41 v53 v60 => 
  kFad 0 v5 S fun v61 S61 =>
  kLd none v61 S61 fun v62 S62 =>
  kBin .eql v62 (.int .i64 2) S62 fun v63 S63 =>
  κ .normal (V11.mk v0 v1 v4 v5 v12 v63 v23 v32 v41 v53 v60) S63)
def c68_6 : V11 → Value := fun v => (V11.casesOn v fun v0 v1 v4 v5 v12 v14 v23 v32 v41 v53 v60 => v14)
def c68_7 (C : Callee) : Cd V11 := fun v S κ => (V11.casesOn v fun v0 v1 v4 v5 v12 v14 v23 v32 v41 v53 v60 => 
  kCall C 62 [v0] S fun v61 S61 =>
  κ .normal (V11.mk v0 v1 v4 v5 v12 v14 v23 v32 v41 v53 v60) S61)
def c68_8 (C : Callee) : Cd V11 := fun v S κ => (V11.casesOn v fun v0 v1 v4 v5 v12 v14 v23 v32 v41 v53 v60 => 
  kFad 2 v5 S fun v61 S61 =>
  kLd none v61 S61 fun v62 S62 =>
  kBuild [.int .i64 0, .int .i64 0, .int .u64 0, .string ⟨#[]⟩, .slice none 0 0] [(0, 1, (.int .i64 1)), (1, 1, v62)] S62 fun v63 S63 =>
  kSt 5 v4 v63 S63 fun v64 S64 =>
  κ .normal (V11.mk v0 v1 v4 v5 v12 v14 v23 v32 v41 v53 v60) S64)
def c68_9 (C : Callee) : Cd V11 := fun v S κ => (V11.casesOn v fun v0 v1 v4 v5 v12 v14 v23 v32 v41 v53 v60 => 
  kFad 0 v5 S fun v61 S61 =>
  kLd none v61 S61 fun v62 S62 =>
  kBin .eql v62 (.int .i64 3) S62 fun v63 S63 =>
  κ .normal (V11.mk v0 v1 v4 v5 v12 v14 v63 v32 v41 v53 v60) S63)
def c68_10 : V11 → Value := fun v => (V11.casesOn v fun v0 v1 v4 v5 v12 v14 v23 v32 v41 v53 v60 => v23)
def c68_11 (C : Callee) : Cd V11 := fun v S κ => (V11.casesOn v fun v0 v1 v4 v5 v12 v14 v23 v32 v41 v53 v60 => 
  kCall C 62 [v0] S fun v61 S61 =>
  κ .normal (V11.mk v0 v1 v4 v5 v12 v14 v23 v32 v41 v53 v60) S61)
def c68_12 (C : Callee) : Cd V11 := fun v S κ => (V11.casesOn v fun v0 v1 v4 v5 v12 v14 v23 v32 v41 v53 v60 => 
  kFad 3 v5 S fun v61 S61 =>
  kLd none v61 S61 fun v62 S62 =>
  kBuild [.int .i64 0, .int .i64 0, .int .u64 0, .string ⟨#[]⟩, .slice none 0 0] [(0, 1, (.int .i64 2)), (2, 1, v62)] S62 fun v63 S63 =>
  kSt 5 v4 v63 S63 fun v64 S64 =>
  κ .normal (V11.mk v0 v1 v4 v5 v12 v14 v23 v32 v41 v53 v60) S64)
def c68_13 (C : Callee) : Cd V11 := fun v S κ => (V11.casesOn v fun v0 v1 v4 v5 v12 v14 v23 v32 v41 v53 v60 => 
  kFad 0 v5 S fun v61 S61 =>
  kLd none v61 S61 fun v62 S62 =>
  kBin .eql v62 (.int .i64 4) S62 fun v63 S63 =>
  κ .normal (V11.mk v0 v1 v4 v5 v12 v14 v23 v63 v41 v53 v60) S63)
def c68_14 : V11 → Value := fun v => (V11.casesOn v fun v0 v1 v4 v5 v12 v14 v23 v32 v41 v53 v60 => v32)
def c68_15 (C : Callee) : Cd V11 := fun v S κ => (V11.casesOn v fun v0 v1 v4 v5 v12 v14 v23 v32 v41 v53 v60 => 
  kCall C 62 [v0] S fun v61 S61 =>
  κ .normal (V11.mk v0 v1 v4 v5 v12 v14 v23 v32 v41 v53 v60) S61)
def c68_16 (C : Callee) : Cd V11 := fun v S κ => (V11.casesOn v fun v0 v1 v4 v5 v12 v14 v23 v32 v41 v53 v60 => 
  kFad 1 v5 S fun v61 S61 =>
  kLd none v61 S61 fun v62 S62 =>
  kBuild [.int .i64 0, .int .i64 0, .int .u64 0, .string ⟨#[]⟩, .slice none 0 0] [(0, 1, (.int .i64 3)), (3, 1, v62)] S62 fun v63 S63 =>
  kSt 5 v4 v63 S63 fun v64 S64 =>
  κ .normal (V11.mk v0 v1 v4 v5 v12 v14 v23 v32 v41 v53 v60) S64)
def c68_17 (C : Callee) : Cd V11 := fun v S κ => (V11.casesOn v fun v0 v1 v4 v5 v12 v14 v23 v32 v41 v53 v60 => 
  kCall C 60 [v0, (.string ⟨#[116, 114, 117, 101]⟩)] S fun v61 S61 =>
  bl v61 fun b => cond b
   (κ .normal (V11.mk v0 v1 v4 v5 v12 v14 v23 v32 (.bool true) v53 v60) S61)
   (kCall C 60 [v0, (.string ⟨#[102, 97, 108, 115, 101]⟩)] S61 fun v62 S62 =>
   κ .normal (V11.mk v0 v1 v4 v5 v12 v14 v23 v32 v62 v53 v60) S62))
def c68_18 : V11 → Value := fun v => (V11.casesOn v fun v0 v1 v4 v5 v12 v14 v23 v32 v41 v53 v60 => v41)
def c68_19 (C : Callee) : Cd V11 := fun v S κ => (V11.casesOn v fun v0 v1 v4 v5 v12 v14 v23 v32 v41 v53 v60 => 
  kCall C 62 [v0] S fun v61 S61 =>
  κ .normal (V11.mk v0 v1 v4 v5 v12 v14 v23 v32 v41 v53 v60) S61)
def c68_20 (C : Callee) : Cd V11 := fun v S κ => (V11.casesOn v fun v0 v1 v4 v5 v12 v14 v23 v32 v41 v53 v60 => 
  kFad 1 v5 S fun v61 S61 =>
  kLd none v61 S61 fun v62 S62 =>
  kBuild [.int .i64 0, .int .i64 0, .int .u64 0, .string ⟨#[]⟩, .slice none 0 0] [(0, 1, (.int .i64 4)), (3, 1, v62)] S62 fun v63 S63 =>
  kSt 5 v4 v63 S63 fun v64 S64 =>
  κ .normal (V11.mk v0 v1 v4 v5 v12 v14 v23 v32 v41 v53 v60) S64)
def c68_21 (C : Callee) : Cd V11 := fun v S κ => (V11.casesOn v fun v0 v1 v4 v5 v12 v14 v23 v32 v41 v53 v60 => 
  kFad 0 v5 S fun v61 S61 =>
  kLd none v61 S61 fun v62 S62 =>
  kBin .eql v62 (.int .i64 1) S62 fun v63 S63 =>
  κ .normal (V11.mk v0 v1 v4 v5 v12 v14 v23 v32 v41 v63 v60) S63)
def c68_22 : V11 → Value := fun v => (V11.casesOn v fun v0 v1 v4 v5 v12 v14 v23 v32 v41 v53 v60 => v53)
def c68_23 (C : Callee) : Cd V11 := fun v S κ => (V11.casesOn v fun v0 v1 v4 v5 v12 v14 v23 v32 v41 v53 v60 => 
  kCall C 64 [v0] S fun v61 S61 =>
  kBuild [.int .i64 0, .int .i64 0, .int .u64 0, .string ⟨#[]⟩, .slice none 0 0] [(0, 1, (.int .i64 4)), (3, 1, v61)] S61 fun v62 S62 =>
  kSt 5 v4 v62 S62 fun v63 S63 =>
  κ .normal (V11.mk v0 v1 v4 v5 v12 v14 v23 v32 v41 v53 v60) S63)
def c68_24 (C : Callee) : Cd V11 := fun v S κ => (V11.casesOn v fun v0 v1 v4 v5 v12 v14 v23 v32 v41 v53 v60 => 
  kCall C 88 [v0, (.string ⟨#[91]⟩)] S fun v61 S61 =>
  bl v61 fun b => cond b
   (κ .normal (V11.mk v0 v1 v4 v5 v12 v14 v23 v32 v41 v53 (.bool true)) S61)
   (kCall C 88 [v0, (.string ⟨#[123]⟩)] S61 fun v62 S62 =>
   κ .normal (V11.mk v0 v1 v4 v5 v12 v14 v23 v32 v41 v53 v62) S62))
def c68_25 : V11 → Value := fun v => (V11.casesOn v fun v0 v1 v4 v5 v12 v14 v23 v32 v41 v53 v60 => v60)
def c68_26 (C : Callee) : Cd V11 := fun v S κ => (V11.casesOn v fun v0 v1 v4 v5 v12 v14 v23 v32 v41 v53 v60 => 
  kCall C 91 [v0, v1] S fun v61 S61 =>
  kSt 5 v4 v61 S61 fun v62 S62 =>
  κ .normal (V11.mk v0 v1 v4 v5 v12 v14 v23 v32 v41 v53 v60) S62)
def c68_27 (C : Callee) : Cd V11 := fun v S κ => (V11.casesOn v fun v0 v1 v4 v5 v12 v14 v23 v32 v41 v53 v60 => 
  kCall C 46 [v0, (.int .i64 2)] S fun v61 S61 =>
  κ .normal (V11.mk v0 v1 v4 v5 v12 v14 v23 v32 v41 v53 v60) S61)
def c68_28 (C : Callee) : Cd V11 := fun v S κ => (V11.casesOn v fun v0 v1 v4 v5 v12 v14 v23 v32 v41 v53 v60 => 
  kBuild [.int .i64 0, .int .i64 0, .int .u64 0, .string ⟨#[]⟩, .slice none 0 0] [] S fun v61 S61 =>
  kSt 5 v4 v61 S61 fun v62 S62 =>
  κ .normal (V11.mk v0 v1 v4 v5 v12 v14 v23 v32 v41 v53 v60) S62)
/-- (*assayer/assayerref5.parser).constant -/
def c68 (C : Callee) (n : Nat) : Cd V11 := seqK (c68_0 C) (seqK (c68_1 C) (seqK (seqK (c68_2 C) (condK c68_3 (seqK (c68_4 C) (retK)) (skipK))) (seqK (blockK 0 (seqK (c68_5 C) (condK c68_6 (seqK (c68_7 C) (seqK (c68_8 C) (retK))) (seqK (c68_9 C) (condK c68_10 (seqK (c68_11 C) (seqK (c68_12 C) (retK))) (seqK (c68_13 C) (condK c68_14 (seqK (c68_15 C) (seqK (c68_16 C) (retK))) (seqK (c68_17 C) (condK c68_18 (seqK (c68_19 C) (seqK (c68_20 C) (retK))) (seqK (c68_21 C) (condK c68_22 (seqK (c68_23 C) (retK)) (seqK (c68_24 C) (condK c68_25 (seqK (c68_26 C) (retK)) (skipK)))))))))))))) (seqK (c68_27 C) (seqK (c68_28 C) (retK))))))
def r68 (v : V11) (S : AW) : R := (V11.casesOn v fun v0 v1 v4 v5 v12 v14 v23 v32 v41 v53 v60 => kLd (some 5) v4 S fun r4 _ => some (r4, S))
def g68 (C : Callee) (n : Nat) (args : List Value) (S : AW) : R := c68 C n (V11.mk (argV args 0) (argV args 1) (argV args 4) (argV args 5) (argV args 12) (argV args 14) (argV args 23) (argV args 32) (argV args 41) (argV args 53) (argV args 60)) S fun o v S => EX.casesOn o (r68 v S) (fun _ => none) (r68 v S)
/-! (*assayer/assayerref5.parser).members -/
def c69_0 (C : Callee) : Cd V8 := fun v S κ => (V8.casesOn v fun v0 v2 v3 v4 v14 v29 v36 v47 => 
  κ .normal (V8.mk v0 (.slice none 0 0) v3 v4 v14 v29 v36 v47) S)
def c69_1 (C : Callee) : Cd V8 := fun v S κ => (V8.casesOn v fun v0 v2 v3 v4 v14 v29 v36 v47 => 
  κ .normal (V8.mk v0 v2 (.slice none 0 0) v4 v14 v29 v36 v47) S)
def c69_2 (C : Callee) : Cd V8 := fun v S κ => (V8.casesOn v fun v0 v2 v3 v4 v14 v29 v36 v47 => 
  kNilc v0 S fun v48 S48 =>
  kFad 2 v48 S48 fun v49 S49 =>
  kLd none v49 S49 fun v50 S50 =>
  kBin .eql v50 (.int .i64 0) S50 fun v51 S51 =>
  bl v51 fun b => cond b
   (kCall C 88 [v0, (.string ⟨#[125]⟩)] S51 fun v52 S52 =>
   kUn .not v52 S52 fun v53 S53 =>
   κ .normal (V8.mk v0 v2 v3 v4 v53 v29 v36 v47) S53)
   (κ .normal (V8.mk v0 v2 v3 v4 (.bool false) v29 v36 v47) S51))
def c69_3 : V8 → Value := fun v => (V8.casesOn v fun v0 v2 v3 v4 v14 v29 v36 v47 => v14)
def c69_4 (C : Callee) : Cd V8 := fun v S κ => (V8.casesOn v fun v0 v2 v3 v4 v14 v29 v36 v47 => 
  kLen false v3 S fun v48 S48 =>
  kBin .eql v48 (.int .i64 30) S48 fun v49 S49 =>
  bl v49 fun b => cond b
   (kCall C 44 [v0] S49 fun v50 S50 =>
   kFld none 0 v50 S50 fun v51 S51 =>
   kBin .eql v51 (.int .i64 1) S51 fun v52 S52 =>
   bl v52 fun b => cond b
    (kCall C 44 [v0] S52 fun v53 S53 =>
    kFld none 1 v53 S53 fun v54 S54 =>
    kCall C 15 [v54] S54 fun v55 S55 =>
    κ .normal (V8.mk v0 v2 v3 v4 v14 v55 v36 v47) S55)
    (κ .normal (V8.mk v0 v2 v3 v4 v14 (.bool false) v36 v47) S52))
   (κ .normal (V8.mk v0 v2 v3 v4 v14 (.bool false) v36 v47) S49))
def c69_5 : V8 → Value := fun v => (V8.casesOn v fun v0 v2 v3 v4 v14 v29 v36 v47 => v29)
def c69_6 (C : Callee) : Cd V8 := fun v S κ => (V8.casesOn v fun v0 v2 v3 v4 v14 v29 v36 v47 => 
  kCall C 46 [v0, (.int .i64 4)] S fun v48 S48 =>
  κ .normal (V8.mk v0 v2 v3 v4 v14 v29 v36 v47) S48)
def c69_7 (C : Callee) : Cd V8 := fun v S κ => (V8.casesOn v fun v0 v2 v3 v4 v14 v29 v36 v47 => 
  kCall C 66 [v0] S fun v48 S48 =>
  kBuild [.string ⟨#[]⟩, .bool false, .int .i64 0] [(0, 1, v48)] S48 fun v49 S49 =>
  kNew 83 3 [.string ⟨#[]⟩, .bool false, .int .i64 0] S49 fun v50 S50 =>
  kSt 3 v50 v49 S50 fun v51 S51 =>
  κ .normal (V8.mk v0 v2 v3 v50 v14 v29 v36 v47) S51)
def c69_8 (C : Callee) : Cd V8 := fun v S κ => (V8.casesOn v fun v0 v2 v3 v4 v14 v29 v36 v47 => 
  kCall C 63 [v0, (.string ⟨#[61]⟩)] S fun v48 S48 =>
  κ .normal (V8.mk v0 v2 v3 v4 v14 v29 v48 v47) S48)
def c69_9 : V8 → Value := fun v => (V8.casesOn v fun v0 v2 v3 v4 v14 v29 v36 v47 => v36)
def c69_10 (C : Callee) : Cd V8 := fun v S κ => (V8.casesOn v fun v0 v2 v3 v4 v14 v29 v36 v47 => 
  kNilc v0 S fun v48 S48 =>
  kFad 2 v48 S48 fun v49 S49 =>
  kLd none v49 S49 fun v50 S50 =>
  kBin .eql v50 (.int .i64 0) S50 fun v51 S51 =>
  bl v51 fun b => cond b
   (kCall C 44 [v0] S51 fun v52 S52 =>
   kFld none 0 v52 S52 fun v53 S53 =>
   kBin .neq v53 (.int .i64 2) S53 fun v54 S54 =>
   κ .normal (V8.mk v0 v2 v3 v4 v14 v29 v36 v54) S54)
   (κ .normal (V8.mk v0 v2 v3 v4 v14 v29 v36 (.bool false)) S51))
def c69_11 : V8 → Value := fun v => (V8.casesOn v fun v0 v2 v3 v4 v14 v29 v36 v47 => v47)
def c69_12 (C : Callee) : Cd V8 := fun v S κ => (V8.casesOn v fun v0 v2 v3 v4 v14 v29 v36 v47 => 
  kCall C 46 [v0, (.int .i64 2)] S fun v48 S48 =>
  κ .normal (V8.mk v0 v2 v3 v4 v14 v29 v36 v47) S48)
def c69_13 (C : Callee) : Cd V8 := fun v S κ => (V8.casesOn v fun v0 v2 v3 v4 v14 v29 v36 v47 => 
  kCall C 44 [v0] S fun v48 S48 =>
  kFld none 2 v48 S48 fun v49 S49 =>
  kFad 1 v4 S49 fun v50 S50 =>
  kSt 1 v50 (.bool true) S50 fun v51 S51 =>
  kFad 2 v4 S51 fun v52 S52 =>
  kSt 1 v52 v49 S52 fun v53 S53 =>
  κ .normal (V8.mk v0 v2 v3 v4 v14 v29 v36 v47) S53)
def c69_14 (C : Callee) : Cd V8 := fun v S κ => (V8.casesOn v fun v0 v2 v3 v4 v14 v29 v36 v47 => 
  kCall C 62 [v0] S fun v48 S48 =>
  κ .normal (V8.mk v0 v2 v3 v4 v14 v29 v36 v47) S48)
def c69_15 (C : Callee) : Cd V8 := fun v S κ => (V8.casesOn v fun v0 v2 v3 v4 v14 v29 v36 v47 => 
  kCall C 72 [v0] S fun v48 S48 =>
  κ .normal (V8.mk v0 v2 v3 v4 v14 v29 v36 v47) S48)
def c69_16 (C : Callee) : Cd V8 := fun v S κ => (V8.casesOn v fun v0 v2 v3 v4 v14 v29 v36 v47 => 
  kLd (some 3) v4 S fun v48 S48 =>
  kLit 83 3 [.string ⟨#[]⟩, .bool false, .int .i64 0] 1 [(0, 3, v48)] S48 fun v49 S49 =>
  kApp 83 3 32 v3 v49 S49 fun v50 S50 =>
  κ .normal (V8.mk v0 v2 v50 v4 v14 v29 v36 v47) S50)
def c69_17 (C : Callee) (n : Nat) : Cd V8 := seqK (seqK (c69_2 C) (condK c69_3 (skipK) (exitK 0))) (blockK 1 (seqK (seqK (c69_4 C) (condK c69_5 (seqK (c69_6 C) (exitK 0)) (skipK))) (seqK (c69_7 C) (seqK (seqK (c69_8 C) (condK c69_9 (seqK (c69_10 C) (condK c69_11 (c69_12 C) (seqK (c69_13 C) (c69_14 C)))) (skipK))) (seqK (c69_15 C) (c69_16 C))))))
def c69_18 (C : Callee) : Cd V8 := fun v S κ => (V8.casesOn v fun v0 v2 v3 v4 v14 v29 v36 v47 => 
  kCall C 67 [v0, (.string ⟨#[125]⟩)] S fun v48 S48 =>
  κ .normal (V8.mk v0 v2 v3 v4 v14 v29 v36 v47) S48)
def c69_19 (C : Callee) : Cd V8 := fun v S κ => (V8.casesOn v fun v0 v2 v3 v4 v14 v29 v36 v47 => 
  κ .normal (V8.mk v0 v3 v3 v4 v14 v29 v36 v47) S)
/-- (*assayer/assayerref5.parser).members -/
def c69 (C : Callee) (n : Nat) : Cd V8 := seqK (c69_0 C) (seqK (c69_1 C) (seqK (blockK 0 (loopK n (c69_17 C n))) (seqK (c69_18 C) (seqK (c69_19 C) (retK)))))
def r69 (v : V8) (S : AW) : R := (V8.casesOn v fun v0 v2 v3 v4 v14 v29 v36 v47 => some (v2, S))
def g69 (C : Callee) (n : Nat) (args : List Value) (S : AW) : R := c69 C n (V8.mk (argV args 0) (argV args 2) (argV args 3) (argV args 4) (argV args 14) (argV args 29) (argV args 36) (argV args 47)) S fun o v S => EX.casesOn o (r69 v S) (fun _ => none) (r69 v S)
/-! (*assayer/assayerref5.parser).strukt -/
def c70_0 (C : Callee) : Cd V4 := fun v S κ => (V4.casesOn v fun v0 v1 v4 v5 => 
  kNew 51 12 [.int .i64 0, .string ⟨#[]⟩, .string ⟨#[]⟩, .int .i64 0, .int .i64 0, .int .u64 0, .string ⟨#[]⟩, .slice none 0 0, .slice none 0 0, .slice none 0 0, .string ⟨#[]⟩, .slice none 0 0] S fun v6 S6 =>
  κ .normal (V4.mk v0 v1 v6 v5) S6)
def c70_1 (C : Callee) : Cd V4 := fun v S κ => (V4.casesOn v fun v0 v1 v4 v5 => 
  kCall C 66 [v0] S fun v6 S6 =>
  kBuild [.int .i64 0, .string ⟨#[]⟩, .string ⟨#[]⟩, .int .i64 0, .int .i64 0, .int .u64 0, .string ⟨#[]⟩, .slice none 0 0, .slice none 0 0, .slice none 0 0, .string ⟨#[]⟩, .slice none 0 0] [(0, 1, v1), (1, 1, v6)] S6 fun v7 S7 =>
  kNew 51 12 [.int .i64 0, .string ⟨#[]⟩, .string ⟨#[]⟩, .int .i64 0, .int .i64 0, .int .u64 0, .string ⟨#[]⟩, .slice none 0 0, .slice none 0 0, .slice none 0 0, .string ⟨#[]⟩, .slice none 0 0] S7 fun v8 S8 =>
  kSt 12 v8 v7 S8 fun v9 S9 =>
  κ .normal (V4.mk v0 v1 v4 v8) S9)
def c70_2 (C : Callee) : Cd V4 := fun v S κ => (V4.casesOn v fun v0 v1 v4 v5 => 
  kCall C 67 [v0, (.string ⟨#[123]⟩)] S fun v6 S6 =>
  κ .normal (V4.mk v0 v1 v4 v5) S6)
def c70_3 (C : Callee) : Cd V4 := fun v S κ => (V4.casesOn v fun v0 v1 v4 v5 => 
  kCall C 92 [v0, (.string ⟨#[125]⟩)] S fun v6 S6 =>
  kFad 8 v5 S6 fun v7 S7 =>
  kSt 1 v7 v6 S7 fun v8 S8 =>
  κ .normal (V4.mk v0 v1 v4 v5) S8)
def c70_4 (C : Callee) : Cd V4 := fun v S κ => (V4.casesOn v fun v0 v1 v4 v5 => 
  kLd (some 12) v5 S fun v6 S6 =>
  kSt 12 v4 v6 S6 fun v7 S7 =>
  κ .normal (V4.mk v0 v1 v4 v5) S7)
/-- (*assayer/assayerref5.parser).strukt -/
def c70 (C : Callee) (n : Nat) : Cd V4 := seqK (c70_0 C) (seqK (c70_1 C) (seqK (c70_2 C) (seqK (c70_3 C) (seqK (c70_4 C) (retK)))))
def r70 (v : V4) (S : AW) : R := (V4.casesOn v fun v0 v1 v4 v5 => kLd (some 12) v4 S fun r4 _ => some (r4, S))
def g70 (C : Callee) (n : Nat) (args : List Value) (S : AW) : R := c70 C n (V4.mk (argV args 0) (argV args 1) (argV args 4) (argV args 5)) S fun o v S => EX.casesOn o (r70 v S) (fun _ => none) (r70 v S)
/-! (*assayer/assayerref5.parser).methods -/
def c71_0 (C : Callee) : Cd V8 := fun v S κ => (V8.casesOn v fun v0 v2 v3 v4 v14 v29 v36 v50 => 
  κ .normal (V8.mk v0 (.slice none 0 0) v3 v4 v14 v29 v36 v50) S)
def c71_1 (C : Callee) : Cd V8 := fun v S κ => (V8.casesOn v fun v0 v2 v3 v4 v14 v29 v36 v50 => 
  κ .normal (V8.mk v0 v2 (.slice none 0 0) v4 v14 v29 v36 v50) S)
def c71_2 (C : Callee) : Cd V8 := fun v S κ => (V8.casesOn v fun v0 v2 v3 v4 v14 v29 v36 v50 => 
  kNilc v0 S fun v51 S51 =>
  kFad 2 v51 S51 fun v52 S52 =>
  kLd none v52 S52 fun v53 S53 =>
  kBin .eql v53 (.int .i64 0) S53 fun v54 S54 =>
  bl v54 fun b => cond b
   (kCall C 88 [v0, (.string ⟨#[125]⟩)] S54 fun v55 S55 =>
   kUn .not v55 S55 fun v56 S56 =>
   κ .normal (V8.mk v0 v2 v3 v4 v56 v29 v36 v50) S56)
   (κ .normal (V8.mk v0 v2 v3 v4 (.bool false) v29 v36 v50) S54))
def c71_3 : V8 → Value := fun v => (V8.casesOn v fun v0 v2 v3 v4 v14 v29 v36 v50 => v14)
def c71_4 (C : Callee) : Cd V8 := fun v S κ => (V8.casesOn v fun v0 v2 v3 v4 v14 v29 v36 v50 => 
  kLen false v3 S fun v51 S51 =>
  kBin .eql v51 (.int .i64 30) S51 fun v52 S52 =>
  bl v52 fun b => cond b
   (kCall C 60 [v0, (.string ⟨#[111, 110, 101, 119, 97, 121]⟩)] S52 fun v53 S53 =>
   bl v53 fun b => cond b
    (κ .normal (V8.mk v0 v2 v3 v4 v14 (.bool true) v36 v50) S53)
    (kCall C 60 [v0, (.string ⟨#[118, 111, 105, 100]⟩)] S53 fun v54 S54 =>
    bl v54 fun b => cond b
     (κ .normal (V8.mk v0 v2 v3 v4 v14 (.bool true) v36 v50) S54)
     (kCall C 93 [v0] S54 fun v55 S55 =>
     κ .normal (V8.mk v0 v2 v3 v4 v14 v55 v36 v50) S55)))
   (κ .normal (V8.mk v0 v2 v3 v4 v14 (.bool false) v36 v50) S52))
def c71_5 : V8 → Value := fun v => (V8.casesOn v fun v0 v2 v3 v4 v14 v29 v36 v50 => v29)
def c71_6 (C : Callee) : Cd V8 := fun v S κ => (V8.casesOn v fun v0 v2 v3 v4 v14 v29 v36 v50 => 
  kCall C 46 [v0, (.int .i64 4)] S fun v51 S51 =>
  κ .normal (V8.mk v0 v2 v3 v4 v14 v29 v36 v50) S51)
def c71_7 (C : Callee) : Cd V8 := fun v S κ => (V8.casesOn v fun v0 v2 v3 v4 v14 v29 v36 v50 => 
  kCall C 61 [v0, (.string ⟨#[111, 110, 101, 119, 97, 121]⟩)] S fun v51 S51 =>
  kBuild [.string ⟨#[]⟩, .bool false, .string ⟨#[]⟩, .slice none 0 0, .slice none 0 0] [(1, 1, v51)] S51 fun v52 S52 =>
  kNew 85 5 [.string ⟨#[]⟩, .bool false, .string ⟨#[]⟩, .slice none 0 0, .slice none 0 0] S52 fun v53 S53 =>
  kSt 5 v53 v52 S53 fun v54 S54 =>
  κ .normal (V8.mk v0 v2 v3 v53 v14 v29 v36 v50) S54)
def c71_8 (C : Callee) : Cd V8 := fun v S κ => (V8.casesOn v fun v0 v2 v3 v4 v14 v29 v36 v50 => 
  kCall C 61 [v0, (.string ⟨#[118, 111, 105, 100]⟩)] S fun v51 S51 =>
  κ .normal (V8.mk v0 v2 v3 v4 v14 v29 v51 v50) S51)
def c71_9 : V8 → Value := fun v => (V8.casesOn v fun v0 v2 v3 v4 v14 v29 v36 v50 => v36)
def c71_10 (C : Callee) : Cd V8 := fun v S κ => (V8.casesOn v fun v0 v2 v3 v4 v14 v29 v36 v50 => 
  kFad 2 v4 S fun v51 S51 =>
  kSt 1 v51 (.string ⟨#[118, 111, 105, 100]⟩) S51 fun v52 S52 =>
  κ .normal (V8.mk v0 v2 v3 v4 v14 v29 v36 v50) S52)
def c71_11 (C : Callee) : Cd V8 := fun v S κ => (V8.casesOn v fun v0 v2 v3 v4 v14 v29 v36 v50 => 
  kCall C 65 [v0, (.int .i64 1)] S fun v51 S51 =>
  kFad 2 v4 S51 fun v52 S52 =>
  kSt 1 v52 v51 S52 fun v53 S53 =>
  κ .normal (V8.mk v0 v2 v3 v4 v14 v29 v36 v50) S53)
def c71_12 (C : Callee) : Cd V8 := fun v S κ => (V8.casesOn v fun v0 v2 v3 v4 v14 v29 v36 v50 => 
  kCall C 66 [v0] S fun v51 S51 =>
  kFad 0 v4 S51 fun v52 S52 =>
  kSt 1 v52 v51 S52 fun v53 S53 =>
  κ .normal (V8.mk v0 v2 v3 v4 v14 v29 v36 v50) S53)
def c71_13 (C : Callee) : Cd V8 := fun v S κ => (V8.casesOn v fun v0 v2 v3 v4 v14 v29 v36 v50 => 
  kCall C 67 [v0, (.string ⟨#[40]⟩)] S fun v51 S51 =>
  κ .normal (V8.mk v0 v2 v3 v4 v14 v29 v36 v50) S51)
def c71_14 (C : Callee) : Cd V8 := fun v S κ => (V8.casesOn v fun v0 v2 v3 v4 v14 v29 v36 v50 => 
  kCall C 92 [v0, (.string ⟨#[41]⟩)] S fun v51 S51 =>
  kFad 3 v4 S51 fun v52 S52 =>
  kSt 1 v52 v51 S52 fun v53 S53 =>
  κ .normal (V8.mk v0 v2 v3 v4 v14 v29 v36 v50) S53)
def c71_15 (C : Callee) : Cd V8 := fun v S κ => (V8.casesOn v fun v0 v2 v3 v4 v14 v29 v36 v50 => 
  kCall C 61 [v0, (.string ⟨#[116, 104, 114, 111, 119, 115]⟩)] S fun v51 S51 =>
  κ .normal (V8.mk v0 v2 v3 v4 v14 v29 v36 v51) S51)
def c71_16 : V8 → Value := fun v => (V8.casesOn v fun v0 v2 v3 v4 v14 v29 v36 v50 => v50)
def c71_17 (C : Callee) : Cd V8 := fun v S κ => (V8.casesOn v fun v0 v2 v3 v4 v14 v29 v36 v50 => 
  kCall C 67 [v0, (.string ⟨#[40]⟩)] S fun v51 S51 =>
  κ .normal (V8.mk v0 v2 v3 v4 v14 v29 v36 v50) S51)
def c71_18 (C : Callee) : Cd V8 := fun v S κ => (V8.casesOn v fun v0 v2 v3 v4 v14 v29 v36 v50 => 
  kCall C 92 [v0, (.string ⟨#[41]⟩)] S fun v51 S51 =>
  kFad 4 v4 S51 fun v52 S52 =>
  kSt 1 v52 v51 S52 fun v53 S53 =>
  κ .normal (V8.mk v0 v2 v3 v4 v14 v29 v36 v50) S53)
def c71_19 (C : Callee) : Cd V8 := fun v S κ => (V8.casesOn v fun v0 v2 v3 v4 v14 v29 v36 v50 => 
  kCall C 72 [v0] S fun v51 S51 =>
  κ .normal (V8.mk v0 v2 v3 v4 v14 v29 v36 v50) S51)
def c71_20 (C : Callee) : Cd V8 := fun v S κ => (V8.casesOn v fun v0 v2 v3 v4 v14 v29 v36 v50 => 
  kLd (some 5) v4 S fun v51 S51 =>
  kLit 85 5 [.string ⟨#[]⟩, .bool false, .string ⟨#[]⟩, .slice none 0 0, .slice none 0 0] 1 [(0, 5, v51)] S51 fun v52 S52 =>
  kApp 85 5 88 v3 v52 S52 fun v53 S53 =>
  κ .normal (V8.mk v0 v2 v53 v4 v14 v29 v36 v50) S53)
def c71_21 (C : Callee) (n : Nat) : Cd V8 := seqK (seqK (c71_2 C) (condK c71_3 (skipK) (exitK 0))) (blockK 1 (seqK (seqK (c71_4 C) (condK c71_5 (seqK (c71_6 C) (exitK 0)) (skipK))) (seqK (c71_7 C) (seqK (seqK (c71_8 C) (condK c71_9 (c71_10 C) (c71_11 C))) (seqK (c71_12 C) (seqK (c71_13 C) (seqK (c71_14 C) (seqK (seqK (c71_15 C) (condK c71_16 (seqK (c71_17 C) (c71_18 C)) (skipK))) (seqK (c71_19 C) (c71_20 C))))))))))
def c71_22 (C : Callee) : Cd V8 := fun v S κ => (V8.casesOn v fun v0 v2 v3 v4 v14 v29 v36 v50 => 
  kCall C 67 [v0, (.string ⟨#[125]⟩)] S fun v51 S51 =>
  κ .normal (V8.mk v0 v2 v3 v4 v14 v29 v36 v50) S51)
def c71_23 (C : Callee) : Cd V8 := fun v S κ => (V8.casesOn v fun v0 v2 v3 v4 v14 v29 v36 v50 => 
  κ .normal (V8.mk v0 v3 v3 v4 v14 v29 v36 v50) S)
/-- (*assayer/assayerref5.parser).methods -/
def c71 (C : Callee) (n : Nat) : Cd V8 := seqK (c71_0 C) (seqK (c71_1 C) (seqK (blockK 0 (loopK n (c71_21 C n))) (seqK (c71_22 C) (seqK (c71_23 C) (retK)))))
def r71 (v : V8) (S : AW) : R := (V8.casesOn v fun v0 v2 v3 v4 v14 v29 v36 v50 => some (v2, S))
def g71 (C : Callee) (n : Nat) (args : List Value) (S : AW) : R := c71 C n (V8.mk (argV args 0) (argV args 2) (argV args 3) (argV args 4) (argV args 14) (argV args 29) (argV args 36) (argV args 50)) S fun o v S => EX.casesOn o (r71 v S) (fun _ => none) (r71 v S)
/-! (*assayer/assayerref5.parser).part -/
def c72_0 (C : Callee) : Cd V2 := fun v S κ => (V2.casesOn v fun v0 v4 => 
  kCall C 63 [v0, (.string ⟨#[44]⟩)] S fun v5 S5 =>
  kUn .not v5 S5 fun v6 S6 =>
  κ .normal (V2.mk v0 v6) S6)
def c72_1 : V2 → Value := fun v => (V2.casesOn v fun v0 v4 => v4)
def c72_2 (C : Callee) : Cd V2 := fun v S κ => (V2.casesOn v fun v0 v4 => 
  kCall C 63 [v0, (.string ⟨#[59]⟩)] S fun v5 S5 =>
  κ .normal (V2.mk v0 v4) S5)
/-- (*assayer/assayerref5.parser).part -/
def c72 (C : Callee) (n : Nat) : Cd V2 := seqK (c72_0 C) (condK c72_1 (c72_2 C) (skipK))
def r72 (v : V2) (S : AW) : R := (V2.casesOn v fun v0 v4 => some (.tuple #[], S))
def g72 (C : Callee) (n : Nat) (args : List Value) (S : AW) : R := c72 C n (V2.mk (argV args 0) (argV args 4)) S fun o v S => EX.casesOn o (r72 v S) (fun _ => none) (r72 v S)
/-! unicode/utf8.RuneCountInString -/
def c79_0 (C : Callee) : Cd V3 := fun v S κ => (V3.casesOn v fun v0 v2 v6 => 
  κ .normal (V3.mk v0 (.int .i64 0) v6) S)
def c79_1 (C : Callee) : Cd V3 := fun v S κ => (V3.casesOn v fun v0 v2 v6 => 
  kO none S fun v7 S7 =>
  κ .normal (V3.mk v0 v2 v6) S7)
def c79_2 (C : Callee) : Cd V3 := fun v S κ => (V3.casesOn v fun v0 v2 v6 => 
  kO none S fun v7 S7 =>
  kExt 0 v7 S7 fun v8 S8 =>
  κ .normal (V3.mk v0 v2 v8) S8)
def c79_3 : V3 → Value := fun v => (V3.casesOn v fun v0 v2 v6 => v6)
def c79_4 (C : Callee) : Cd V3 := fun v S κ => (V3.casesOn v fun v0 v2 v6 => 
  kBin .add v2 (.int .i64 1) S fun v7 S7 =>
  κ .normal (V3.mk v0 v7 v6) S7)
def c79_5 (C : Callee) (n : Nat) : Cd V3 := seqK (c79_2 C) (seqK (condK c79_3 (skipK) (exitK 0)) (blockK 1 (c79_4 C)))
def c79_6 (C : Callee) : Cd V3 := fun v S κ => (V3.casesOn v fun v0 v2 v6 => 
  κ .normal (V3.mk v0 v2 v6) S)
/-- unicode/utf8.RuneCountInString -/
def c79 (C : Callee) (n : Nat) : Cd V3 := seqK (c79_0 C) (seqK (seqK (c79_1 C) (blockK 0 (loopK n (c79_5 C n)))) (seqK (c79_6 C) (retK)))
def r79 (v : V3) (S : AW) : R := (V3.casesOn v fun v0 v2 v6 => some (v2, S))
def g79 (C : Callee) (n : Nat) (args : List Value) (S : AW) : R := c79 C n (V3.mk (argV args 0) (argV args 2) (argV args 6)) S fun o v S => EX.casesOn o (r79 v S) (fun _ => none) (r79 v S)
/-! unicode/utf8.DecodeRuneInString -/
def c80_0 (C : Callee) : Cd V4 := fun v S κ => (V4.casesOn v fun v0 v2 v3 v10 => 
  κ .normal (V4.mk v0 (.int .i32 0) (.int .i64 0) v10) S)
def c80_1 (C : Callee) : Cd V4 := fun v S κ => (V4.casesOn v fun v0 v2 v3 v10 => 
  kBin .neq v0 (.string ⟨#[]⟩) S fun v11 S11 =>
  bl v11 fun b => cond b
   (kIdxS v0 (.int .i64 0) S11 fun v12 S12 =>
   kBin .lss v12 (.int .u8 128) S12 fun v13 S13 =>
   κ .normal (V4.mk v0 v2 v3 v13) S13)
   (κ .normal (V4.mk v0 v2 v3 (.bool false)) S11))
def c80_2 : V4 → Value := fun v => (V4.casesOn v fun v0 v2 v3 v10 => v10)
def c80_3 (C : Callee) : Cd V4 := fun v S κ => (V4.casesOn v fun v0 v2 v3 v10 => 
  kIdxS v0 (.int .i64 0) S fun v11 S11 =>
  kCvI .i32 v11 S11 fun v12 S12 =>
  κ .normal (V4.mk v0 v12 (.int .i64 1) v10) S12)
def c80_4 (C : Callee) : Cd V4 := fun v S κ => (V4.casesOn v fun v0 v2 v3 v10 => 
  kCall C 97 [v0] S fun v11 S11 =>
  kExt 0 v11 S11 fun v12 S12 =>
  kExt 1 v11 S12 fun v13 S13 =>
  κ .normal (V4.mk v0 v12 v13 v10) S13)
/-- unicode/utf8.DecodeRuneInString -/
def c80 (C : Callee) (n : Nat) : Cd V4 := seqK (c80_0 C) (seqK (seqK (c80_1 C) (condK c80_2 (seqK (c80_3 C) (retK)) (c80_4 C))) (retK))
def r80 (v : V4) (S : AW) : R := (V4.casesOn v fun v0 v2 v3 v10 => some (.tuple #[v2, v3], S))
def g80 (C : Callee) (n : Nat) (args : List Value) (S : AW) : R := c80 C n (V4.mk (argV args 0) (argV args 2) (argV args 3) (argV args 10)) S fun o v S => EX.casesOn o (r80 v S) (fun _ => none) (r80 v S)
/-! internal/stringslite.Index -/
def c82_0 (C : Callee) : Cd V24 := fun v S κ => (V24.casesOn v fun v0 v1 v4 v5 v6 v7 v8 v9 v10 v11 v12 v13 v16 v24 v31 v36 v59 v64 v73 v93 v107 v114 v132 v139 => 
  κ .normal (V24.mk v0 v1 (.int .i64 0) v5 v6 v7 v8 v9 v10 v11 v12 v13 v16 v24 v31 v36 v59 v64 v73 v93 v107 v114 v132 v139) S)
def c82_1 (C : Callee) : Cd V24 := fun v S κ => (V24.casesOn v fun v0 v1 v4 v5 v6 v7 v8 v9 v10 v11 v12 v13 v16 v24 v31 v36 v59 v64 v73 v93 v107 v114 v132 v139 => 
  kLen true v1 S fun v140 S140 =>
  κ .normal (V24.mk v0 v1 v4 v140 v6 v7 v8 v9 v10 v11 v12 v13 v16 v24 v31 v36 v59 v64 v73 v93 v107 v114 v132 v139) S140)
def c82_2 (C : Callee) : Cd V24 := fun v S κ => (V24.casesOn v fun v0 v1 v4 v5 v6 v7 v8 v9 v10 v11 v12 v13 v16 v24 v31 v36 v59 v64 v73 v93 v107 v114 v132 v139 => 
  kBin .eql v5 (.int .i64 0) S fun v140 S140 =>
  bl v140 fun b => cond b
   (κ .normal (V24.mk v0 v1 v4 v5 v6 v7 v8 v9 v10 v11 v12 v13 (.bool true) v24 v31 v36 v59 v64 v73 v93 v107 v114 v132 v139) S140)
   (kBin .eql v1 v0 S140 fun v141 S141 =>
   κ .normal (V24.mk v0 v1 v4 v5 v6 v7 v8 v9 v10 v11 v12 v13 v141 v24 v31 v36 v59 v64 v73 v93 v107 v114 v132 v139) S141))
def c82_3 : V24 → Value := fun v => (V24.casesOn v fun v0 v1 v4 v5 v6 v7 v8 v9 v10 v11 v12 v13 v16 v24 v31 v36 v59 v64 v73 v93 v107 v114 v132 v139 => v16)
def c82_4 (C : Callee) : Cd V24 := fun v S κ => (V24.casesOn v fun v0 v1 v4 v5 v6 v7 v8 v9 v10 v11 v12 v13 v16 v24 v31 v36 v59 v64 v73 v93 v107 v114 v132 v139 => 
  κ .normal (V24.mk v0 v1 (.int .i64 0) v5 v6 v7 v8 v9 v10 v11 v12 v13 v16 v24 v31 v36 v59 v64 v73 v93 v107 v114 v132 v139) S)
def c82_5 (C : Callee) : Cd V24 := fun v S κ => (V24.casesOn v fun v0 v1 v4 v5 v6 v7 v8 v9 v10 v11 v12 v13 v16 v24 v31 v36 v59 v64 v73 v93 v107 v114 v132 v139 => 
  kBin .eql v5 (.int .i64 1) S fun v140 S140 =>
  κ .normal (V24.mk v0 v1 v4 v5 v6 v7 v8 v9 v10 v11 v12 v13 v16 v140 v31 v36 v59 v64 v73 v93 v107 v114 v132 v139) S140)
def c82_6 : V24 → Value := fun v => (V24.casesOn v fun v0 v1 v4 v5 v6 v7 v8 v9 v10 v11 v12 v13 v16 v24 v31 v36 v59 v64 v73 v93 v107 v114 v132 v139 => v24)
def c82_7 (C : Callee) : Cd V24 := fun v S κ => (V24.casesOn v fun v0 v1 v4 v5 v6 v7 v8 v9 v10 v11 v12 v13 v16 v24 v31 v36 v59 v64 v73 v93 v107 v114 v132 v139 => 
  kIdxS v1 (.int .i64 0) S fun v140 S140 =>
  kCall C 98 [v0, v140] S140 fun v141 S141 =>
  κ .normal (V24.mk v0 v1 v141 v5 v6 v7 v8 v9 v10 v11 v12 v13 v16 v24 v31 v36 v59 v64 v73 v93 v107 v114 v132 v139) S141)
def c82_8 (C : Callee) : Cd V24 := fun v S κ => (V24.casesOn v fun v0 v1 v4 v5 v6 v7 v8 v9 v10 v11 v12 v13 v16 v24 v31 v36 v59 v64 v73 v93 v107 v114 v132 v139 => 
  kLen true v0 S fun v140 S140 =>
  kBin .geq v5 v140 S140 fun v141 S141 =>
  κ .normal (V24.mk v0 v1 v4 v5 v6 v7 v8 v9 v10 v11 v12 v13 v16 v24 v141 v36 v59 v64 v73 v93 v107 v114 v132 v139) S141)
def c82_9 : V24 → Value := fun v => (V24.casesOn v fun v0 v1 v4 v5 v6 v7 v8 v9 v10 v11 v12 v13 v16 v24 v31 v36 v59 v64 v73 v93 v107 v114 v132 v139 => v31)
def c82_10 (C : Callee) : Cd V24 := fun v S κ => (V24.casesOn v fun v0 v1 v4 v5 v6 v7 v8 v9 v10 v11 v12 v13 v16 v24 v31 v36 v59 v64 v73 v93 v107 v114 v132 v139 => 
  κ .normal (V24.mk v0 v1 (.int .i64 (-1)) v5 v6 v7 v8 v9 v10 v11 v12 v13 v16 v24 v31 v36 v59 v64 v73 v93 v107 v114 v132 v139) S)
def c82_11 (C : Callee) : Cd V24 := fun v S κ => (V24.casesOn v fun v0 v1 v4 v5 v6 v7 v8 v9 v10 v11 v12 v13 v16 v24 v31 v36 v59 v64 v73 v93 v107 v114 v132 v139 => 
  bl (.func (.func 0) #[] #[]) fun b => cond b
   (κ .normal (V24.mk v0 v1 v4 v5 v6 v7 v8 v9 v10 v11 v12 v13 v16 v24 v31 v36 v59 v64 v73 v93 v107 v114 v132 v139) S)
   (κ .normal (V24.mk v0 v1 v4 v5 v6 v7 v8 v9 v10 v11 v12 v13 v16 v24 v31 v36 v59 v64 v73 v93 v107 v114 v132 v139) S))
def c82_12 : V24 → Value := fun v => (V24.casesOn v fun v0 v1 v4 v5 v6 v7 v8 v9 v10 v11 v12 v13 v16 v24 v31 v36 v59 v64 v73 v93 v107 v114 v132 v139 => v36)
def c82_13 (C : Callee) : Cd V24 := fun v S κ => (V24.casesOn v fun v0 v1 v4 v5 v6 v7 v8 v9 v10 v11 v12 v13 v16 v24 v31 v36 v59 v64 v73 v93 v107 v114 v132 v139 => 
  kCall C 99 [v0, v1] S fun v140 S140 =>
  κ .normal (V24.mk v0 v1 v140 v5 v6 v7 v8 v9 v10 v11 v12 v13 v16 v24 v31 v36 v59 v64 v73 v93 v107 v114 v132 v139) S140)
def c82_14 (C : Callee) : Cd V24 := fun v S κ => (V24.casesOn v fun v0 v1 v4 v5 v6 v7 v8 v9 v10 v11 v12 v13 v16 v24 v31 v36 v59 v64 v73 v93 v107 v114 v132 v139 => 
  kIdxS v1 (.int .i64 0) S fun v140 S140 =>
  κ .normal (V24.mk v0 v1 v4 v5 v140 v7 v8 v9 v10 v11 v12 v13 v16 v24 v31 v36 v59 v64 v73 v93 v107 v114 v132 v139) S140)
def c82_15 (C : Callee) : Cd V24 := fun v S κ => (V24.casesOn v fun v0 v1 v4 v5 v6 v7 v8 v9 v10 v11 v12 v13 v16 v24 v31 v36 v59 v64 v73 v93 v107 v114 v132 v139 => 
  kIdxS v1 (.int .i64 1) S fun v140 S140 =>
  κ .normal (V24.mk v0 v1 v4 v5 v6 v140 v8 v9 v10 v11 v12 v13 v16 v24 v31 v36 v59 v64 v73 v93 v107 v114 v132 v139) S140)
def c82_16 (C : Callee) : Cd V24 := fun v S κ => (V24.casesOn v fun v0 v1 v4 v5 v6 v7 v8 v9 v10 v11 v12 v13 v16 v24 v31 v36 v59 v64 v73 v93 v107 v114 v132 v139 => 
  κ .normal (V24.mk v0 v1 v4 v5 v6 v7 (.int .i64 0) v9 v10 v11 v12 v13 v16 v24 v31 v36 v59 v64 v73 v93 v107 v114 v132 v139) S)
def c82_17 (C : Callee) : Cd V24 := fun v S κ => (V24.casesOn v fun v0 v1 v4 v5 v6 v7 v8 v9 v10 v11 v12 v13 v16 v24 v31 v36 v59 v64 v73 v93 v107 v114 v132 v139 => 
  kLen true v0 S fun v140 S140 =>
  kBin .sub v140 v5 S140 fun v141 S141 =>
  kBin .add v141 (.int .i64 1) S141 fun v142 S142 =>
  κ .normal (V24.mk v0 v1 v4 v5 v6 v7 v8 v142 v10 v11 v12 v13 v16 v24 v31 v36 v59 v64 v73 v93 v107 v114 v132 v139) S142)
def c82_18 (C : Callee) : Cd V24 := fun v S κ => (V24.casesOn v fun v0 v1 v4 v5 v6 v7 v8 v9 v10 v11 v12 v13 v16 v24 v31 v36 v59 v64 v73 v93 v107 v114 v132 v139 => 
  κ .normal (V24.mk v0 v1 v4 v5 v6 v7 v8 v9 (.int .i64 0) v11 v12 v13 v16 v24 v31 v36 v59 v64 v73 v93 v107 v114 v132 v139) S)
def c82_19 (C : Callee) : Cd V24 := fun v S κ => (V24.casesOn v fun v0 v1 v4 v5 v6 v7 v8 v9 v10 v11 v12 v13 v16 v24 v31 v36 v59 v64 v73 v93 v107 v114 v132 v139 => 
  kBin .lss v8 v9 S fun v140 S140 =>
  κ .normal (V24.mk v0 v1 v4 v5 v6 v7 v8 v9 v10 v11 v12 v13 v16 v24 v31 v36 v140 v64 v73 v93 v107 v114 v132 v139) S140)
def c82_20 : V24 → Value := fun v => (V24.casesOn v fun v0 v1 v4 v5 v6 v7 v8 v9 v10 v11 v12 v13 v16 v24 v31 v36 v59 v64 v73 v93 v107 v114 v132 v139 => v59)
def c82_21 (C : Callee) : Cd V24 := fun v S κ => (V24.casesOn v fun v0 v1 v4 v5 v6 v7 v8 v9 v10 v11 v12 v13 v16 v24 v31 v36 v59 v64 v73 v93 v107 v114 v132 v139 => 
  kIdxS v0 v8 S fun v140 S140 =>
  kBin .neq v140 v6 S140 fun v141 S141 =>
  κ .normal (V24.mk v0 v1 v4 v5 v6 v7 v8 v9 v10 v11 v12 v13 v16 v24 v31 v36 v59 v141 v73 v93 v107 v114 v132 v139) S141)
def c82_22 : V24 → Value := fun v => (V24.casesOn v fun v0 v1 v4 v5 v6 v7 v8 v9 v10 v11 v12 v13 v16 v24 v31 v36 v59 v64 v73 v93 v107 v114 v132 v139 => v64)
def c82_23 (C : Callee) : Cd V24 := fun v S κ => (V24.casesOn v fun v0 v1 v4 v5 v6 v7 v8 v9 v10 v11 v12 v13 v16 v24 v31 v36 v59 v64 v73 v93 v107 v114 v132 v139 => 
  kBin .add v8 (.int .i64 1) S fun v140 S140 =>
  kSlS v0 (some v140) (some v9) S140 fun v141 S141 =>
  kCall C 98 [v141, v6] S141 fun v142 S142 =>
  κ .normal (V24.mk v0 v1 v4 v5 v6 v7 v8 v9 v10 v142 v12 v13 v16 v24 v31 v36 v59 v64 v73 v93 v107 v114 v132 v139) S142)
def c82_24 (C : Callee) : Cd V24 := fun v S κ => (V24.casesOn v fun v0 v1 v4 v5 v6 v7 v8 v9 v10 v11 v12 v13 v16 v24 v31 v36 v59 v64 v73 v93 v107 v114 v132 v139 => 
  kBin .lss v11 (.int .i64 0) S fun v140 S140 =>
  κ .normal (V24.mk v0 v1 v4 v5 v6 v7 v8 v9 v10 v11 v12 v13 v16 v24 v31 v36 v59 v64 v140 v93 v107 v114 v132 v139) S140)
def c82_25 : V24 → Value := fun v => (V24.casesOn v fun v0 v1 v4 v5 v6 v7 v8 v9 v10 v11 v12 v13 v16 v24 v31 v36 v59 v64 v73 v93 v107 v114 v132 v139 => v73)
def c82_26 (C : Callee) : Cd V24 := fun v S κ => (V24.casesOn v fun v0 v1 v4 v5 v6 v7 v8 v9 v10 v11 v12 v13 v16 v24 v31 v36 v59 v64 v73 v93 v107 v114 v132 v139 => 
  κ .normal (V24.mk v0 v1 (.int .i64 (-1)) v5 v6 v7 v8 v9 v10 v11 v12 v13 v16 v24 v31 v36 v59 v64 v73 v93 v107 v114 v132 v139) S)
def c82_27 (C : Callee) : Cd V24 := fun v S κ => (V24.casesOn v fun v0 v1 v4 v5 v6 v7 v8 v9 v10 v11 v12 v13 v16 v24 v31 v36 v59 v64 v73 v93 v107 v114 v132 v139 => 
  kBin .add v11 (.int .i64 1) S fun v140 S140 =>
  kBin .add v8 v140 S140 fun v141 S141 =>
  κ .normal (V24.mk v0 v1 v4 v5 v6 v7 v141 v9 v10 v11 v12 v13 v16 v24 v31 v36 v59 v64 v73 v93 v107 v114 v132 v139) S141)
def c82_28 (C : Callee) : Cd V24 := fun v S κ => (V24.casesOn v fun v0 v1 v4 v5 v6 v7 v8 v9 v10 v11 v12 v13 v16 v24 v31 v36 v59 v64 v73 v93 v107 v114 v132 v139 => 
  kBin .add v8 (.int .i64 1) S fun v140 S140 =>
  kIdxS v0 v140 S140 fun v141 S141 =>
  kBin .eql v141 v7 S141 fun v142 S142 =>
  bl v142 fun b => cond b
   (kBin .add v8 v5 S142 fun v143 S143 =>
   kSlS v0 (some v8) (some v143) S143 fun v144 S144 =>
   kBin .eql v144 v1 S144 fun v145 S145 =>
   κ .normal (V24.mk v0 v1 v4 v5 v6 v7 v8 v9 v10 v11 v12 v13 v16 v24 v31 v36 v59 v64 v73 v145 v107 v114 v132 v139) S145)
   (κ .normal (V24.mk v0 v1 v4 v5 v6 v7 v8 v9 v10 v11 v12 v13 v16 v24 v31 v36 v59 v64 v73 (.bool false) v107 v114 v132 v139) S142))
def c82_29 : V24 → Value := fun v => (V24.casesOn v fun v0 v1 v4 v5 v6 v7 v8 v9 v10 v11 v12 v13 v16 v24 v31 v36 v59 v64 v73 v93 v107 v114 v132 v139 => v93)
def c82_30 (C : Callee) : Cd V24 := fun v S κ => (V24.casesOn v fun v0 v1 v4 v5 v6 v7 v8 v9 v10 v11 v12 v13 v16 v24 v31 v36 v59 v64 v73 v93 v107 v114 v132 v139 => 
  κ .normal (V24.mk v0 v1 v8 v5 v6 v7 v8 v9 v10 v11 v12 v13 v16 v24 v31 v36 v59 v64 v73 v93 v107 v114 v132 v139) S)
def c82_31 (C : Callee) : Cd V24 := fun v S κ => (V24.casesOn v fun v0 v1 v4 v5 v6 v7 v8 v9 v10 v11 v12 v13 v16 v24 v31 v36 v59 v64 v73 v93 v107 v114 v132 v139 => 
  kBin .add v8 (.int .i64 1) S fun v140 S140 =>
  κ .normal (V24.mk v0 v1 v4 v5 v6 v7 v140 v9 v10 v11 v12 v13 v16 v24 v31 v36 v59 v64 v73 v93 v107 v114 v132 v139) S140)
def c82_32 (C : Callee) : Cd V24 := fun v S κ => (V24.casesOn v fun v0 v1 v4 v5 v6 v7 v8 v9 v10 v11 v12 v13 v16 v24 v31 v36 v59 v64 v73 v93 v107 v114 v132 v139 => 
  kBin .add v10 (.int .i64 1) S fun v140 S140 =>
  κ .normal (V24.mk v0 v1 v4 v5 v6 v7 v8 v9 v140 v11 v12 v13 v16 v24 v31 v36 v59 v64 v73 v93 v107 v114 v132 v139) S140)
def c82_33 (C : Callee) : Cd V24 := fun v S κ => (V24.casesOn v fun v0 v1 v4 v5 v6 v7 v8 v9 v10 v11 v12 v13 v16 v24 v31 v36 v59 v64 v73 v93 v107 v114 v132 v139 => 
  bl (.func (.func 0) #[] #[]) fun b => cond b
   (κ .normal (V24.mk v0 v1 v4 v5 v6 v7 v8 v9 v10 v11 v12 v13 v16 v24 v31 v36 v59 v64 v73 v93 v107 v114 v132 v139) S)
   (κ .normal (V24.mk v0 v1 v4 v5 v6 v7 v8 v9 v10 v11 v12 v13 v16 v24 v31 v36 v59 v64 v73 v93 v107 v114 v132 v139) S))
def c82_34 : V24 → Value := fun v => (V24.casesOn v fun v0 v1 v4 v5 v6 v7 v8 v9 v10 v11 v12 v13 v16 v24 v31 v36 v59 v64 v73 v93 v107 v114 v132 v139 => v107)
def c82_35 (C : Callee) : Cd V24 := fun v S κ => (V24.casesOn v fun v0 v1 v4 v5 v6 v7 v8 v9 v10 v11 v12 v13 v16 v24 v31 v36 v59 v64 v73 v93 v107 v114 v132 v139 => 
  kSlS v0 (some v8) none S fun v140 S140 =>
  kCall C 99 [v140, v1] S140 fun v141 S141 =>
  κ .normal (V24.mk v0 v1 v4 v5 v6 v7 v8 v9 v10 v11 v141 v13 v16 v24 v31 v36 v59 v64 v73 v93 v107 v114 v132 v139) S141)
def c82_36 (C : Callee) : Cd V24 := fun v S κ => (V24.casesOn v fun v0 v1 v4 v5 v6 v7 v8 v9 v10 v11 v12 v13 v16 v24 v31 v36 v59 v64 v73 v93 v107 v114 v132 v139 => 
  kBin .geq v12 (.int .i64 0) S fun v140 S140 =>
  κ .normal (V24.mk v0 v1 v4 v5 v6 v7 v8 v9 v10 v11 v12 v13 v16 v24 v31 v36 v59 v64 v73 v93 v107 v140 v132 v139) S140)
def c82_37 : V24 → Value := fun v => (V24.casesOn v fun v0 v1 v4 v5 v6 v7 v8 v9 v10 v11 v12 v13 v16 v24 v31 v36 v59 v64 v73 v93 v107 v114 v132 v139 => v114)
def c82_38 (C : Callee) : Cd V24 := fun v S κ => (V24.casesOn v fun v0 v1 v4 v5 v6 v7 v8 v9 v10 v11 v12 v13 v16 v24 v31 v36 v59 v64 v73 v93 v107 v114 v132 v139 => 
  kBin .add v12 v8 S fun v140 S140 =>
  κ .normal (V24.mk v0 v1 v140 v5 v6 v7 v8 v9 v10 v11 v12 v13 v16 v24 v31 v36 v59 v64 v73 v93 v107 v114 v132 v139) S140)
def c82_39 (C : Callee) : Cd V24 := fun v S κ => (V24.casesOn v fun v0 v1 v4 v5 v6 v7 v8 v9 v10 v11 v12 v13 v16 v24 v31 v36 v59 v64 v73 v93 v107 v114 v132 v139 => 
  κ .normal (V24.mk v0 v1 (.int .i64 (-1)) v5 v6 v7 v8 v9 v10 v11 v12 v13 v16 v24 v31 v36 v59 v64 v73 v93 v107 v114 v132 v139) S)
def c82_40 (C : Callee) : Cd V24 := fun v S κ => (V24.casesOn v fun v0 v1 v4 v5 v6 v7 v8 v9 v10 v11 v12 v13 v16 v24 v31 v36 v59 v64 v73 v93 v107 v114 v132 v139 => 
  bl (.func (.func 0) #[] #[]) fun b => cond b
   (κ .normal (V24.mk v0 v1 v4 v5 v6 v7 v8 v9 v10 v11 v12 v13 v16 v24 v31 v36 v59 v64 v73 v93 v107 v114 v132 v139) S)
   (κ .normal (V24.mk v0 v1 v4 v5 v6 v7 v8 v9 v10 v11 v12 v13 v16 v24 v31 v36 v59 v64 v73 v93 v107 v114 v132 v139) S))
def c82_41 : V24 → Value := fun v => (V24.casesOn v fun v0 v1 v4 v5 v6 v7 v8 v9 v10 v11 v12 v13 v16 v24 v31 v36 v59 v64 v73 v93 v107 v114 v132 v139 => v132)
def c82_42 (C : Callee) : Cd V24 := fun v S κ => (V24.casesOn v fun v0 v1 v4 v5 v6 v7 v8 v9 v10 v11 v12 v13 v16 v24 v31 v36 v59 v64 v73 v93 v107 v114 v132 v139 => 
  kSlS v0 (some v8) none S fun v140 S140 =>
  kCall C 101 [v140, v1] S140 fun v141 S141 =>
  κ .normal (V24.mk v0 v1 v4 v5 v6 v7 v8 v9 v10 v11 v12 v141 v16 v24 v31 v36 v59 v64 v73 v93 v107 v114 v132 v139) S141)
def c82_43 (C : Callee) : Cd V24 := fun v S κ => (V24.casesOn v fun v0 v1 v4 v5 v6 v7 v8 v9 v10 v11 v12 v13 v16 v24 v31 v36 v59 v64 v73 v93 v107 v114 v132 v139 => 
  kBin .lss v13 (.int .i64 0) S fun v140 S140 =>
  κ .normal (V24.mk v0 v1 v4 v5 v6 v7 v8 v9 v10 v11 v12 v13 v16 v24 v31 v36 v59 v64 v73 v93 v107 v114 v132 v140) S140)
def c82_44 : V24 → Value := fun v => (V24.casesOn v fun v0 v1 v4 v5 v6 v7 v8 v9 v10 v11 v12 v13 v16 v24 v31 v36 v59 v64 v73 v93 v107 v114 v132 v139 => v139)
def c82_45 (C : Callee) : Cd V24 := fun v S κ => (V24.casesOn v fun v0 v1 v4 v5 v6 v7 v8 v9 v10 v11 v12 v13 v16 v24 v31 v36 v59 v64 v73 v93 v107 v114 v132 v139 => 
  κ .normal (V24.mk v0 v1 (.int .i64 (-1)) v5 v6 v7 v8 v9 v10 v11 v12 v13 v16 v24 v31 v36 v59 v64 v73 v93 v107 v114 v132 v139) S)
def c82_46 (C : Callee) : Cd V24 := fun v S κ => (V24.casesOn v fun v0 v1 v4 v5 v6 v7 v8 v9 v10 v11 v12 v13 v16 v24 v31 v36 v59 v64 v73 v93 v107 v114 v132 v139 => 
  kBin .add v8 v13 S fun v140 S140 =>
  κ .normal (V24.mk v0 v1 v140 v5 v6 v7 v8 v9 v10 v11 v12 v13 v16 v24 v31 v36 v59 v64 v73 v93 v107 v114 v132 v139) S140)
def c82_47 (C : Callee) (n : Nat) : Cd V24 := seqK (seqK (c82_19 C) (condK c82_20 (skipK) (exitK 1))) (blockK 2 (seqK (seqK (c82_21 C) (condK c82_22 (seqK (c82_23 C) (seqK (seqK (c82_24 C) (condK c82_25 (seqK (c82_26 C) (retK)) (skipK))) (c82_27 C))) (skipK))) (seqK (seqK (c82_28 C) (condK c82_29 (seqK (c82_30 C) (retK)) (skipK))) (seqK (c82_31 C) (seqK (c82_32 C) (seqK (c82_33 C) (condK c82_34 (seqK (c82_35 C) (seqK (seqK (c82_36 C) (condK c82_37 (seqK (c82_38 C) (retK)) (skipK))) (seqK (c82_39 C) (retK)))) (seqK (c82_40 C) (condK c82_41 (seqK (c82_42 C) (seqK (seqK (c82_43 C) (condK c82_44 (seqK (c82_45 C) (retK)) (skipK))) (seqK (c82_46 C) (retK)))) (skipK))))))))))
def c82_48 (C : Callee) : Cd V24 := fun v S κ => (V24.casesOn v fun v0 v1 v4 v5 v6 v7 v8 v9 v10 v11 v12 v13 v16 v24 v31 v36 v59 v64 v73 v93 v107 v114 v132 v139 => 
  κ .normal (V24.mk v0 v1 (.int .i64 (-1)) v5 v6 v7 v8 v9 v10 v11 v12 v13 v16 v24 v31 v36 v59 v64 v73 v93 v107 v114 v132 v139) S)
/-- internal/stringslite.Index -/
def c82 (C : Callee) (n : Nat) : Cd V24 := seqK (c82_0 C) (seqK (c82_1 C) (seqK (blockK 0 (seqK (c82_2 C) (condK c82_3 (seqK (c82_4 C) (retK)) (seqK (c82_5 C) (condK c82_6 (seqK (c82_7 C) (retK)) (seqK (c82_8 C) (condK c82_9 (seqK (c82_10 C) (retK)) (seqK (c82_11 C) (condK c82_12 (seqK (c82_13 C) (retK)) (skipK)))))))))) (seqK (c82_14 C) (seqK (c82_15 C) (seqK (c82_16 C) (seqK (c82_17 C) (seqK (c82_18 C) (seqK (blockK 1 (loopK n (c82_47 C n))) (seqK (c82_48 C) (retK))))))))))
def r82 (v : V24) (S : AW) : R := (V24.casesOn v fun v0 v1 v4 v5 v6 v7 v8 v9 v10 v11 v12 v13 v16 v24 v31 v36 v59 v64 v73 v93 v107 v114 v132 v139 => some (v4, S))
def g82 (C : Callee) (n : Nat) (args : List Value) (S : AW) : R := c82 C n (V24.mk (argV args 0) (argV args 1) (argV args 4) (argV args 5) (argV args 6) (argV args 7) (argV args 8) (argV args 9) (argV args 10) (argV args 11) (argV args 12) (argV args 13) (argV args 16) (argV args 24) (argV args 31) (argV args 36) (argV args 59) (argV args 64) (argV args 73) (argV args 93) (argV args 107) (argV args 114) (argV args 132) (argV args 139)) S fun o v S => EX.casesOn o (r82 v S) (fun _ => none) (r82 v S)
/-! slices.Index[[]string,string] -/
def c83_0 (C : Callee) : Cd V8 := fun v S κ => (V8.casesOn v fun v0 v1 v4 v5 v7 v8 v9 v16 => 
  κ .normal (V8.mk v0 v1 (.int .i64 0) v5 v7 v8 v9 v16) S)
def c83_1 (C : Callee) : Cd V8 := fun v S κ => (V8.casesOn v fun v0 v1 v4 v5 v7 v8 v9 v16 => 
  kLen false v0 S fun v17 S17 =>
  κ .normal (V8.mk v0 v1 v4 v5 v17 (.int .i64 0) v9 v16) S17)
def c83_2 (C : Callee) : Cd V8 := fun v S κ => (V8.casesOn v fun v0 v1 v4 v5 v7 v8 v9 v16 => 
  kBin .lss v8 v7 S fun v17 S17 =>
  κ .normal (V8.mk v0 v1 v4 v5 v7 v8 v17 v16) S17)
def c83_3 : V8 → Value := fun v => (V8.casesOn v fun v0 v1 v4 v5 v7 v8 v9 v16 => v9)
def c83_4 (C : Callee) : Cd V8 := fun v S κ => (V8.casesOn v fun v0 v1 v4 v5 v7 v8 v9 v16 => 
  κ .normal (V8.mk v0 v1 v4 v8 v7 v8 v9 v16) S)
def c83_5 (C : Callee) : Cd V8 := fun v S κ => (V8.casesOn v fun v0 v1 v4 v5 v7 v8 v9 v16 => 
  kIad 1 v0 v5 S fun v17 S17 =>
  kLd none v17 S17 fun v18 S18 =>
  kBin .eql v1 v18 S18 fun v19 S19 =>
  κ .normal (V8.mk v0 v1 v4 v5 v7 v8 v9 v19) S19)
def c83_6 : V8 → Value := fun v => (V8.casesOn v fun v0 v1 v4 v5 v7 v8 v9 v16 => v16)
def c83_7 (C : Callee) : Cd V8 := fun v S κ => (V8.casesOn v fun v0 v1 v4 v5 v7 v8 v9 v16 => 
  κ .normal (V8.mk v0 v1 v5 v5 v7 v8 v9 v16) S)
def c83_8 (C : Callee) : Cd V8 := fun v S κ => (V8.casesOn v fun v0 v1 v4 v5 v7 v8 v9 v16 => 
  kBin .add v8 (.int .i64 1) S fun v17 S17 =>
  κ .normal (V8.mk v0 v1 v4 v5 v7 v17 v9 v16) S17)
def c83_9 (C : Callee) (n : Nat) : Cd V8 := seqK (c83_2 C) (seqK (condK c83_3 (skipK) (exitK 0)) (seqK (blockK 1 (seqK (c83_4 C) (seqK (c83_5 C) (condK c83_6 (seqK (c83_7 C) (retK)) (skipK))))) (c83_8 C)))
def c83_10 (C : Callee) : Cd V8 := fun v S κ => (V8.casesOn v fun v0 v1 v4 v5 v7 v8 v9 v16 => 
  κ .normal (V8.mk v0 v1 (.int .i64 (-1)) v5 v7 v8 v9 v16) S)
/-- slices.Index[[]string,string] -/
def c83 (C : Callee) (n : Nat) : Cd V8 := seqK (c83_0 C) (seqK (seqK (c83_1 C) (blockK 0 (loopK n (c83_9 C n)))) (seqK (c83_10 C) (retK)))
def r83 (v : V8) (S : AW) : R := (V8.casesOn v fun v0 v1 v4 v5 v7 v8 v9 v16 => some (v4, S))
def g83 (C : Callee) (n : Nat) (args : List Value) (S : AW) : R := c83 C n (V8.mk (argV args 0) (argV args 1) (argV args 4) (argV args 5) (argV args 7) (argV args 8) (argV args 9) (argV args 16)) S fun o v S => EX.casesOn o (r83 v S) (fun _ => none) (r83 v S)
/-! assayer/assayerref5.starts -/
def c84_0 (C : Callee) : Cd V4 := fun v S κ => (V4.casesOn v fun v0 v1 v2 v6 => 
  κ .normal (V4.mk v0 v1 v2 (.bool false)) S)
def c84_1 (C : Callee) : Cd V4 := fun v S κ => (V4.casesOn v fun v0 v1 v2 v6 => 
  kLen true v2 S fun v7 S7 =>
  kBin .add v1 v7 S7 fun v8 S8 =>
  kLen true v0 S8 fun v9 S9 =>
  kBin .leq v8 v9 S9 fun v10 S10 =>
  bl v10 fun b => cond b
   (kLen true v2 S10 fun v11 S11 =>
   kBin .add v1 v11 S11 fun v12 S12 =>
   kSlS v0 (some v1) (some v12) S12 fun v13 S13 =>
   kBin .eql v13 v2 S13 fun v14 S14 =>
   κ .normal (V4.mk v0 v1 v2 v14) S14)
   (κ .normal (V4.mk v0 v1 v2 (.bool false)) S10))
/-- assayer/assayerref5.starts -/
def c84 (C : Callee) (n : Nat) : Cd V4 := seqK (c84_0 C) (seqK (c84_1 C) (retK))
def r84 (v : V4) (S : AW) : R := (V4.casesOn v fun v0 v1 v2 v6 => some (v6, S))
def g84 (C : Callee) (n : Nat) (args : List Value) (S : AW) : R := c84 C n (V4.mk (argV args 0) (argV args 1) (argV args 2) (argV args 6)) S fun o v S => EX.casesOn o (r84 v S) (fun _ => none) (r84 v S)
/-! (*assayer/assayerref5.lexer).fail -/
def c85_0 (C : Callee) : Cd V3 := fun v S κ => (V3.casesOn v fun v0 v1 v2 => 
  kNilc v0 S fun v3 S3 =>
  kFad 2 v3 S3 fun v4 S4 =>
  kSt 1 v4 v1 S4 fun v5 S5 =>
  kNilc v0 S5 fun v6 S6 =>
  kFad 3 v6 S6 fun v7 S7 =>
  kSt 1 v7 v2 S7 fun v8 S8 =>
  κ .normal (V3.mk v0 v1 v2) S8)
/-- (*assayer/assayerref5.lexer).fail -/
def c85 (C : Callee) (n : Nat) : Cd V3 := c85_0 C
def r85 (v : V3) (S : AW) : R := (V3.casesOn v fun v0 v1 v2 => some (.tuple #[], S))
def g85 (C : Callee) (n : Nat) (args : List Value) (S : AW) : R := c85 C n (V3.mk (argV args 0) (argV args 1) (argV args 2)) S fun o v S => EX.casesOn o (r85 v S) (fun _ => none) (r85 v S)
/-! (*assayer/assayerref5.lexer).name -/
def c86_0 (C : Callee) : Cd V9 := fun v S κ => (V9.casesOn v fun v0 v2 v3 v4 v5 v55 v75 v83 v103 => 
  kNew 118 5 [.int .i64 0, .string ⟨#[]⟩, .int .i64 0, .int .u64 0, .int .i64 0] S fun v104 S104 =>
  κ .normal (V9.mk v0 v104 v3 v4 v5 v55 v75 v83 v103) S104)
def c86_1 (C : Callee) : Cd V9 := fun v S κ => (V9.casesOn v fun v0 v2 v3 v4 v5 v55 v75 v83 v103 => 
  kNilc v0 S fun v104 S104 =>
  kFad 1 v104 S104 fun v105 S105 =>
  kLd none v105 S105 fun v106 S106 =>
  κ .normal (V9.mk v0 v2 v106 v4 v5 v55 v75 v83 v103) S106)
def c86_2 (C : Callee) : Cd V9 := fun v S κ => (V9.casesOn v fun v0 v2 v3 v4 v5 v55 v75 v83 v103 => 
  kNilc v0 S fun v104 S104 =>
  kFad 1 v104 S104 fun v105 S105 =>
  kLd none v105 S105 fun v106 S106 =>
  kNilc v0 S106 fun v107 S107 =>
  kFad 0 v107 S107 fun v108 S108 =>
  kLd none v108 S108 fun v109 S109 =>
  kLen true v109 S109 fun v110 S110 =>
  kBin .lss v106 v110 S110 fun v111 S111 =>
  bl v111 fun b => cond b
   (kNilc v0 S111 fun v112 S112 =>
   kFad 0 v112 S112 fun v113 S113 =>
   kLd none v113 S113 fun v114 S114 =>
   kNilc v0 S114 fun v115 S115 =>
   kFad 1 v115 S115 fun v116 S116 =>
   kLd none v116 S116 fun v117 S117 =>
   kIdxS v114 v117 S117 fun v118 S118 =>
   kCall C 26 [v118] S118 fun v119 S119 =>
   bl v119 fun b => cond b
    (κ .normal (V9.mk v0 v2 v3 v4 v5 (.bool true) v75 v83 v103) S119)
    (kNilc v0 S119 fun v120 S120 =>
    kFad 0 v120 S120 fun v121 S121 =>
    kLd none v121 S121 fun v122 S122 =>
    kNilc v0 S122 fun v123 S123 =>
    kFad 1 v123 S123 fun v124 S124 =>
    kLd none v124 S124 fun v125 S125 =>
    kIdxS v122 v125 S125 fun v126 S126 =>
    kCall C 28 [v126] S126 fun v127 S127 =>
    bl v127 fun b => cond b
     (κ .normal (V9.mk v0 v2 v3 v4 v5 (.bool true) v75 v83 v103) S127)
     (kNilc v0 S127 fun v128 S128 =>
     kFad 0 v128 S128 fun v129 S129 =>
     kLd none v129 S129 fun v130 S130 =>
     kNilc v0 S130 fun v131 S131 =>
     kFad 1 v131 S131 fun v132 S132 =>
     kLd none v132 S132 fun v133 S133 =>
     kIdxS v130 v133 S133 fun v134 S134 =>
     kBin .eql v134 (.int .u8 46) S134 fun v135 S135 =>
     κ .normal (V9.mk v0 v2 v3 v4 v5 v135 v75 v83 v103) S135)))
   (κ .normal (V9.mk v0 v2 v3 v4 v5 (.bool false) v75 v83 v103) S111))
def c86_3 : V9 → Value := fun v => (V9.casesOn v fun v0 v2 v3 v4 v5 v55 v75 v83 v103 => v55)
def c86_4 (C : Callee) : Cd V9 := fun v S κ => (V9.casesOn v fun v0 v2 v3 v4 v5 v55 v75 v83 v103 => 
  kNilc v0 S fun v104 S104 =>
  kFad 1 v104 S104 fun v105 S105 =>
  kLd none v105 S105 fun v106 S106 =>
  kBin .add v106 (.int .i64 1) S106 fun v107 S107 =>
  kNilc v0 S107 fun v108 S108 =>
  kFad 1 v108 S108 fun v109 S109 =>
  kSt 1 v109 v107 S109 fun v110 S110 =>
  κ .normal (V9.mk v0 v2 v3 v4 v5 v55 v75 v83 v103) S110)
def c86_5 (C : Callee) (n : Nat) : Cd V9 := seqK (seqK (c86_2 C) (condK c86_3 (skipK) (exitK 0))) (blockK 1 (c86_4 C))
def c86_6 (C : Callee) : Cd V9 := fun v S κ => (V9.casesOn v fun v0 v2 v3 v4 v5 v55 v75 v83 v103 => 
  kNilc v0 S fun v104 S104 =>
  kFad 0 v104 S104 fun v105 S105 =>
  kLd none v105 S105 fun v106 S106 =>
  kNilc v0 S106 fun v107 S107 =>
  kFad 1 v107 S107 fun v108 S108 =>
  kLd none v108 S108 fun v109 S109 =>
  kSlS v106 (some v3) (some v109) S109 fun v110 S110 =>
  κ .normal (V9.mk v0 v2 v3 v110 v5 v55 v75 v83 v103) S110)
def c86_7 (C : Callee) : Cd V9 := fun v S κ => (V9.casesOn v fun v0 v2 v3 v4 v5 v55 v75 v83 v103 => 
  kLen true v4 S fun v104 S104 =>
  kBin .gtr v104 (.int .i64 120) S104 fun v105 S105 =>
  κ .normal (V9.mk v0 v2 v3 v4 v5 v55 v105 v83 v103) S105)
def c86_8 : V9 → Value := fun v => (V9.casesOn v fun v0 v2 v3 v4 v5 v55 v75 v83 v103 => v75)
def c86_9 (C : Callee) : Cd V9 := fun v S κ => (V9.casesOn v fun v0 v2 v3 v4 v5 v55 v75 v83 v103 => 
  kCall C 85 [v0, (.int .i64 4), v3] S fun v104 S104 =>
  κ .normal (V9.mk v0 v2 v3 v4 v5 v55 v75 v83 v103) S104)
def c86_10 (C : Callee) : Cd V9 := fun v S κ => (V9.casesOn v fun v0 v2 v3 v4 v5 v55 v75 v83 v103 => 
  kBuild [.int .i64 0, .string ⟨#[]⟩, .int .i64 0, .int .u64 0, .int .i64 0] [] S fun v104 S104 =>
  kSt 5 v2 v104 S104 fun v105 S105 =>
  κ .normal (V9.mk v0 v2 v3 v4 v5 v55 v75 v83 v103) S105)
def c86_11 (C : Callee) : Cd V9 := fun v S κ => (V9.casesOn v fun v0 v2 v3 v4 v5 v55 v75 v83 v103 => 
  κ .normal (V9.mk v0 v2 v3 v4 (.int .i64 0) v55 v75 v83 v103) S)
def c86_12 (C : Callee) : Cd V9 := fun v S κ => (V9.casesOn v fun v0 v2 v3 v4 v5 v55 v75 v83 v103 => 
  kLen true v4 S fun v104 S104 =>
  kBin .lss v5 v104 S104 fun v105 S105 =>
  κ .normal (V9.mk v0 v2 v3 v4 v5 v55 v75 v105 v103) S105)
def c86_13 : V9 → Value := fun v => (V9.casesOn v fun v0 v2 v3 v4 v5 v55 v75 v83 v103 => v83)
def c86_14 (C : Callee) : Cd V9 := fun v S κ => (V9.casesOn v fun v0 v2 v3 v4 v5 v55 v75 v83 v103 => 
  kIdxS v4 v5 S fun v104 S104 =>
  kBin .eql v104 (.int .u8 46) S104 fun v105 S105 =>
  bl v105 fun b => cond b
   (kLen true v4 S105 fun v106 S106 =>
   kBin .sub v106 (.int .i64 1) S106 fun v107 S107 =>
   kBin .eql v5 v107 S107 fun v108 S108 =>
   bl v108 fun b => cond b
    (κ .normal (V9.mk v0 v2 v3 v4 v5 v55 v75 v83 (.bool true)) S108)
    (kBin .add v5 (.int .i64 1) S108 fun v109 S109 =>
    kIdxS v4 v109 S109 fun v110 S110 =>
    kBin .eql v110 (.int .u8 46) S110 fun v111 S111 =>
    κ .normal (V9.mk v0 v2 v3 v4 v5 v55 v75 v83 v111) S111))
   (κ .normal (V9.mk v0 v2 v3 v4 v5 v55 v75 v83 (.bool false)) S105))
def c86_15 : V9 → Value := fun v => (V9.casesOn v fun v0 v2 v3 v4 v5 v55 v75 v83 v103 => v103)
def c86_16 (C : Callee) : Cd V9 := fun v S κ => (V9.casesOn v fun v0 v2 v3 v4 v5 v55 v75 v83 v103 => 
  kCall C 85 [v0, (.int .i64 2), v3] S fun v104 S104 =>
  κ .normal (V9.mk v0 v2 v3 v4 v5 v55 v75 v83 v103) S104)
def c86_17 (C : Callee) : Cd V9 := fun v S κ => (V9.casesOn v fun v0 v2 v3 v4 v5 v55 v75 v83 v103 => 
  kBin .add v5 (.int .i64 1) S fun v104 S104 =>
  κ .normal (V9.mk v0 v2 v3 v4 v104 v55 v75 v83 v103) S104)
def c86_18 (C : Callee) (n : Nat) : Cd V9 := seqK (seqK (c86_12 C) (condK c86_13 (skipK) (exitK 2))) (seqK (blockK 3 (seqK (c86_14 C) (condK c86_15 (c86_16 C) (skipK)))) (c86_17 C))
def c86_19 (C : Callee) : Cd V9 := fun v S κ => (V9.casesOn v fun v0 v2 v3 v4 v5 v55 v75 v83 v103 => 
  kBuild [.int .i64 0, .string ⟨#[]⟩, .int .i64 0, .int .u64 0, .int .i64 0] [(0, 1, (.int .i64 1)), (1, 1, v4), (4, 1, v3)] S fun v104 S104 =>
  kSt 5 v2 v104 S104 fun v105 S105 =>
  κ .normal (V9.mk v0 v2 v3 v4 v5 v55 v75 v83 v103) S105)
/-- (*assayer/assayerref5.lexer).name -/
def c86 (C : Callee) (n : Nat) : Cd V9 := seqK (c86_0 C) (seqK (c86_1 C) (seqK (blockK 0 (loopK n (c86_5 C n))) (seqK (c86_6 C) (seqK (seqK (c86_7 C) (condK c86_8 (seqK (c86_9 C) (seqK (c86_10 C) (retK))) (skipK))) (seqK (seqK (c86_11 C) (blockK 2 (loopK n (c86_18 C n)))) (seqK (c86_19 C) (retK)))))))
def r86 (v : V9) (S : AW) : R := (V9.casesOn v fun v0 v2 v3 v4 v5 v55 v75 v83 v103 => kLd (some 5) v2 S fun r2 _ => some (r2, S))
def g86 (C : Callee) (n : Nat) (args : List Value) (S : AW) : R := c86 C n (V9.mk (argV args 0) (argV args 2) (argV args 3) (argV args 4) (argV args 5) (argV args 55) (argV args 75) (argV args 83) (argV args 103)) S fun o v S => EX.casesOn o (r86 v S) (fun _ => none) (r86 v S)
/-! (*assayer/assayerref5.lexer).number -/
def c87_0 (C : Callee) : Cd V14 := fun v S κ => (V14.casesOn v fun v0 v2 v3 v4 v5 v6 v7 v38 v62 v97 v140 v186 v194 v206 => 
  kNew 118 5 [.int .i64 0, .string ⟨#[]⟩, .int .i64 0, .int .u64 0, .int .i64 0] S fun v207 S207 =>
  κ .normal (V14.mk v0 v207 v3 v4 v5 v6 v7 v38 v62 v97 v140 v186 v194 v206) S207)
def c87_1 (C : Callee) : Cd V14 := fun v S κ => (V14.casesOn v fun v0 v2 v3 v4 v5 v6 v7 v38 v62 v97 v140 v186 v194 v206 => 
  kNilc v0 S fun v207 S207 =>
  kFad 1 v207 S207 fun v208 S208 =>
  kLd none v208 S208 fun v209 S209 =>
  κ .normal (V14.mk v0 v2 v209 v4 v5 v6 v7 v38 v62 v97 v140 v186 v194 v206) S209)
def c87_2 (C : Callee) : Cd V14 := fun v S κ => (V14.casesOn v fun v0 v2 v3 v4 v5 v6 v7 v38 v62 v97 v140 v186 v194 v206 => 
  kNilc v0 S fun v207 S207 =>
  kFad 0 v207 S207 fun v208 S208 =>
  kLd none v208 S208 fun v209 S209 =>
  kCall C 84 [v209, v3, (.string ⟨#[48, 120]⟩)] S209 fun v210 S210 =>
  bl v210 fun b => cond b
   (kBin .add v3 (.int .i64 2) S210 fun v211 S211 =>
   kNilc v0 S211 fun v212 S212 =>
   kFad 0 v212 S212 fun v213 S213 =>
   kLd none v213 S213 fun v214 S214 =>
   kLen true v214 S214 fun v215 S215 =>
   kBin .lss v211 v215 S215 fun v216 S216 =>
   bl v216 fun b => cond b
    (kNilc v0 S216 fun v217 S217 =>
    kFad 0 v217 S217 fun v218 S218 =>
    kLd none v218 S218 fun v219 S219 =>
    kBin .add v3 (.int .i64 2) S219 fun v220 S220 =>
    kIdxS v219 v220 S220 fun v221 S221 =>
    kCall C 102 [v221] S221 fun v222 S222 =>
    kBin .geq v222 (.int .i64 0) S222 fun v223 S223 =>
    κ .normal (V14.mk v0 v2 v3 v4 v5 v6 v7 v223 v62 v97 v140 v186 v194 v206) S223)
    (κ .normal (V14.mk v0 v2 v3 v4 v5 v6 v7 (.bool false) v62 v97 v140 v186 v194 v206) S216))
   (κ .normal (V14.mk v0 v2 v3 v4 v5 v6 v7 (.bool false) v62 v97 v140 v186 v194 v206) S210))
def c87_3 : V14 → Value := fun v => (V14.casesOn v fun v0 v2 v3 v4 v5 v6 v7 v38 v62 v97 v140 v186 v194 v206 => v38)
def c87_4 (C : Callee) : Cd V14 := fun v S κ => (V14.casesOn v fun v0 v2 v3 v4 v5 v6 v7 v38 v62 v97 v140 v186 v194 v206 => 
  kCall C 103 [v0] S fun v207 S207 =>
  kSt 5 v2 v207 S207 fun v208 S208 =>
  κ .normal (V14.mk v0 v2 v3 v4 v5 v6 v7 v38 v62 v97 v140 v186 v194 v206) S208)
def c87_5 (C : Callee) : Cd V14 := fun v S κ => (V14.casesOn v fun v0 v2 v3 v4 v5 v6 v7 v38 v62 v97 v140 v186 v194 v206 => 
  kNilc v0 S fun v207 S207 =>
  kFad 0 v207 S207 fun v208 S208 =>
  kLd none v208 S208 fun v209 S209 =>
  kNilc v0 S209 fun v210 S210 =>
  kFad 1 v210 S210 fun v211 S211 =>
  kLd none v211 S211 fun v212 S212 =>
  kIdxS v209 v212 S212 fun v213 S213 =>
  kBin .eql v213 (.int .u8 43) S213 fun v214 S214 =>
  bl v214 fun b => cond b
   (κ .normal (V14.mk v0 v2 v3 v4 v5 v6 v7 v38 (.bool true) v97 v140 v186 v194 v206) S214)
   (kNilc v0 S214 fun v215 S215 =>
   kFad 0 v215 S215 fun v216 S216 =>
   kLd none v216 S216 fun v217 S217 =>
   kNilc v0 S217 fun v218 S218 =>
   kFad 1 v218 S218 fun v219 S219 =>
   kLd none v219 S219 fun v220 S220 =>
   kIdxS v217 v220 S220 fun v221 S221 =>
   kBin .eql v221 (.int .u8 45) S221 fun v222 S222 =>
   κ .normal (V14.mk v0 v2 v3 v4 v5 v6 v7 v38 v222 v97 v140 v186 v194 v206) S222))
def c87_6 : V14 → Value := fun v => (V14.casesOn v fun v0 v2 v3 v4 v5 v6 v7 v38 v62 v97 v140 v186 v194 v206 => v62)
def c87_7 (C : Callee) : Cd V14 := fun v S κ => (V14.casesOn v fun v0 v2 v3 v4 v5 v6 v7 v38 v62 v97 v140 v186 v194 v206 => 
  kNilc v0 S fun v207 S207 =>
  kFad 1 v207 S207 fun v208 S208 =>
  kLd none v208 S208 fun v209 S209 =>
  kBin .add v209 (.int .i64 1) S209 fun v210 S210 =>
  kNilc v0 S210 fun v211 S211 =>
  kFad 1 v211 S211 fun v212 S212 =>
  kSt 1 v212 v210 S212 fun v213 S213 =>
  κ .normal (V14.mk v0 v2 v3 v4 v5 v6 v7 v38 v62 v97 v140 v186 v194 v206) S213)
def c87_8 (C : Callee) : Cd V14 := fun v S κ => (V14.casesOn v fun v0 v2 v3 v4 v5 v6 v7 v38 v62 v97 v140 v186 v194 v206 => 
  kCall C 104 [v0] S fun v207 S207 =>
  κ .normal (V14.mk v0 v2 v3 v4 v5 v6 v7 v38 v62 v97 v140 v186 v194 v206) S207)
def c87_9 (C : Callee) : Cd V14 := fun v S κ => (V14.casesOn v fun v0 v2 v3 v4 v5 v6 v7 v38 v62 v97 v140 v186 v194 v206 => 
  κ .normal (V14.mk v0 v2 v3 (.bool true) v5 v6 v7 v38 v62 v97 v140 v186 v194 v206) S)
def c87_10 (C : Callee) : Cd V14 := fun v S κ => (V14.casesOn v fun v0 v2 v3 v4 v5 v6 v7 v38 v62 v97 v140 v186 v194 v206 => 
  kNilc v0 S fun v207 S207 =>
  kFad 1 v207 S207 fun v208 S208 =>
  kLd none v208 S208 fun v209 S209 =>
  kNilc v0 S209 fun v210 S210 =>
  kFad 0 v210 S210 fun v211 S211 =>
  kLd none v211 S211 fun v212 S212 =>
  kLen true v212 S212 fun v213 S213 =>
  kBin .lss v209 v213 S213 fun v214 S214 =>
  bl v214 fun b => cond b
   (kNilc v0 S214 fun v215 S215 =>
   kFad 0 v215 S215 fun v216 S216 =>
   kLd none v216 S216 fun v217 S217 =>
   kNilc v0 S217 fun v218 S218 =>
   kFad 1 v218 S218 fun v219 S219 =>
   kLd none v219 S219 fun v220 S220 =>
   kIdxS v217 v220 S220 fun v221 S221 =>
   kBin .eql v221 (.int .u8 46) S221 fun v222 S222 =>
   bl v222 fun b => cond b
    (kCall C 105 [v0, (.int .i64 1)] S222 fun v223 S223 =>
    κ .normal (V14.mk v0 v2 v3 v4 v5 v6 v7 v38 v62 v223 v140 v186 v194 v206) S223)
    (κ .normal (V14.mk v0 v2 v3 v4 v5 v6 v7 v38 v62 (.bool false) v140 v186 v194 v206) S222))
   (κ .normal (V14.mk v0 v2 v3 v4 v5 v6 v7 v38 v62 (.bool false) v140 v186 v194 v206) S214))
def c87_11 : V14 → Value := fun v => (V14.casesOn v fun v0 v2 v3 v4 v5 v6 v7 v38 v62 v97 v140 v186 v194 v206 => v97)
def c87_12 (C : Callee) : Cd V14 := fun v S κ => (V14.casesOn v fun v0 v2 v3 v4 v5 v6 v7 v38 v62 v97 v140 v186 v194 v206 => 
  κ .normal (V14.mk v0 v2 v3 (.bool false) v5 v6 v7 v38 v62 v97 v140 v186 v194 v206) S)
def c87_13 (C : Callee) : Cd V14 := fun v S κ => (V14.casesOn v fun v0 v2 v3 v4 v5 v6 v7 v38 v62 v97 v140 v186 v194 v206 => 
  kNilc v0 S fun v207 S207 =>
  kFad 1 v207 S207 fun v208 S208 =>
  kLd none v208 S208 fun v209 S209 =>
  kBin .add v209 (.int .i64 1) S209 fun v210 S210 =>
  kNilc v0 S210 fun v211 S211 =>
  kFad 1 v211 S211 fun v212 S212 =>
  kSt 1 v212 v210 S212 fun v213 S213 =>
  κ .normal (V14.mk v0 v2 v3 v4 v5 v6 v7 v38 v62 v97 v140 v186 v194 v206) S213)
def c87_14 (C : Callee) : Cd V14 := fun v S κ => (V14.casesOn v fun v0 v2 v3 v4 v5 v6 v7 v38 v62 v97 v140 v186 v194 v206 => 
  kCall C 104 [v0] S fun v207 S207 =>
  κ .normal (V14.mk v0 v2 v3 v4 v5 v6 v7 v38 v62 v97 v140 v186 v194 v206) S207)
def c87_15 (C : Callee) : Cd V14 := fun v S κ => (V14.casesOn v fun v0 v2 v3 v4 v5 v6 v7 v38 v62 v97 v140 v186 v194 v206 => 
  kNilc v0 S fun v207 S207 =>
  kFad 1 v207 S207 fun v208 S208 =>
  kLd none v208 S208 fun v209 S209 =>
  kNilc v0 S209 fun v210 S210 =>
  kFad 0 v210 S210 fun v211 S211 =>
  kLd none v211 S211 fun v212 S212 =>
  kLen true v212 S212 fun v213 S213 =>
  kBin .lss v209 v213 S213 fun v214 S214 =>
  bl v214 fun b => cond b
   (kNilc v0 S214 fun v215 S215 =>
   kFad 0 v215 S215 fun v216 S216 =>
   kLd none v216 S216 fun v217 S217 =>
   kNilc v0 S217 fun v218 S218 =>
   kFad 1 v218 S218 fun v219 S219 =>
   kLd none v219 S219 fun v220 S220 =>
   kIdxS v217 v220 S220 fun v221 S221 =>
   kBin .eql v221 (.int .u8 101) S221 fun v222 S222 =>
   bl v222 fun b => cond b
    (κ .normal (V14.mk v0 v2 v3 v4 v5 v6 v7 v38 v62 v97 (.bool true) v186 v194 v206) S222)
    (kNilc v0 S222 fun v223 S223 =>
    kFad 0 v223 S223 fun v224 S224 =>
    kLd none v224 S224 fun v225 S225 =>
    kNilc v0 S225 fun v226 S226 =>
    kFad 1 v226 S226 fun v227 S227 =>
    kLd none v227 S227 fun v228 S228 =>
    kIdxS v225 v228 S228 fun v229 S229 =>
    kBin .eql v229 (.int .u8 69) S229 fun v230 S230 =>
    κ .normal (V14.mk v0 v2 v3 v4 v5 v6 v7 v38 v62 v97 v230 v186 v194 v206) S230))
   (κ .normal (V14.mk v0 v2 v3 v4 v5 v6 v7 v38 v62 v97 (.bool false) v186 v194 v206) S214))
def c87_16 : V14 → Value := fun v => (V14.casesOn v fun v0 v2 v3 v4 v5 v6 v7 v38 v62 v97 v140 v186 v194 v206 => v140)
def c87_17 (C : Callee) : Cd V14 := fun v S κ => (V14.casesOn v fun v0 v2 v3 v4 v5 v6 v7 v38 v62 v97 v140 v186 v194 v206 => 
  kNilc v0 S fun v207 S207 =>
  kFad 1 v207 S207 fun v208 S208 =>
  kLd none v208 S208 fun v209 S209 =>
  kBin .add v209 (.int .i64 1) S209 fun v210 S210 =>
  kNilc v0 S210 fun v211 S211 =>
  kFad 0 v211 S211 fun v212 S212 =>
  kLd none v212 S212 fun v213 S213 =>
  kLen true v213 S213 fun v214 S214 =>
  kBin .lss v210 v214 S214 fun v215 S215 =>
  bl v215 fun b => cond b
   (kNilc v0 S215 fun v216 S216 =>
   kFad 0 v216 S216 fun v217 S217 =>
   kLd none v217 S217 fun v218 S218 =>
   kNilc v0 S218 fun v219 S219 =>
   kFad 1 v219 S219 fun v220 S220 =>
   kLd none v220 S220 fun v221 S221 =>
   kBin .add v221 (.int .i64 1) S221 fun v222 S222 =>
   kIdxS v218 v222 S222 fun v223 S223 =>
   kBin .eql v223 (.int .u8 43) S223 fun v224 S224 =>
   bl v224 fun b => cond b
    (κ .normal (V14.mk v0 v2 v3 v4 (.bool true) v6 v7 v38 v62 v97 v140 v186 v194 v206) S224)
    (kNilc v0 S224 fun v225 S225 =>
    kFad 0 v225 S225 fun v226 S226 =>
    kLd none v226 S226 fun v227 S227 =>
    kNilc v0 S227 fun v228 S228 =>
    kFad 1 v228 S228 fun v229 S229 =>
    kLd none v229 S229 fun v230 S230 =>
    kBin .add v230 (.int .i64 1) S230 fun v231 S231 =>
    kIdxS v227 v231 S231 fun v232 S232 =>
    kBin .eql v232 (.int .u8 45) S232 fun v233 S233 =>
    κ .normal (V14.mk v0 v2 v3 v4 v233 v6 v7 v38 v62 v97 v140 v186 v194 v206) S233))
   (κ .normal (V14.mk v0 v2 v3 v4 (.bool false) v6 v7 v38 v62 v97 v140 v186 v194 v206) S215))
def c87_18 (C : Callee) : Cd V14 := fun v S κ => (V14.casesOn v fun v0 v2 v3 v4 v5 v6 v7 v38 v62 v97 v140 v186 v194 v206 => 
  kCall C 105 [v0, (.int .i64 1)] S fun v207 S207 =>
  bl v207 fun b => cond b
   (κ .normal (V14.mk v0 v2 v3 v4 v5 v6 v7 v38 v62 v97 v140 (.bool true) v194 v206) S207)
   (bl v5 fun b => cond b
    (kCall C 105 [v0, (.int .i64 2)] S207 fun v208 S208 =>
    κ .normal (V14.mk v0 v2 v3 v4 v5 v6 v7 v38 v62 v97 v140 v208 v194 v206) S208)
    (κ .normal (V14.mk v0 v2 v3 v4 v5 v6 v7 v38 v62 v97 v140 (.bool false) v194 v206) S207)))
def c87_19 : V14 → Value := fun v => (V14.casesOn v fun v0 v2 v3 v4 v5 v6 v7 v38 v62 v97 v140 v186 v194 v206 => v186)
def c87_20 (C : Callee) : Cd V14 := fun v S κ => (V14.casesOn v fun v0 v2 v3 v4 v5 v6 v7 v38 v62 v97 v140 v186 v194 v206 => 
  κ .normal (V14.mk v0 v2 v3 (.bool false) v5 v6 v7 v38 v62 v97 v140 v186 v194 v206) S)
def c87_21 (C : Callee) : Cd V14 := fun v S κ => (V14.casesOn v fun v0 v2 v3 v4 v5 v6 v7 v38 v62 v97 v140 v186 v194 v206 => 
  kNilc v0 S fun v207 S207 =>
  kFad 1 v207 S207 fun v208 S208 =>
  kLd none v208 S208 fun v209 S209 =>
  kBin .add v209 (.int .i64 1) S209 fun v210 S210 =>
  kNilc v0 S210 fun v211 S211 =>
  kFad 1 v211 S211 fun v212 S212 =>
  kSt 1 v212 v210 S212 fun v213 S213 =>
  κ .normal (V14.mk v0 v2 v3 v4 v5 v6 v7 v38 v62 v97 v140 v186 v194 v206) S213)
def c87_22 (C : Callee) : Cd V14 := fun v S κ => (V14.casesOn v fun v0 v2 v3 v4 v5 v6 v7 v38 v62 v97 v140 v186 v194 v206 => 
  κ .normal (V14.mk v0 v2 v3 v4 v5 v6 v7 v38 v62 v97 v140 v186 v5 v206) S)
def c87_23 : V14 → Value := fun v => (V14.casesOn v fun v0 v2 v3 v4 v5 v6 v7 v38 v62 v97 v140 v186 v194 v206 => v194)
def c87_24 (C : Callee) : Cd V14 := fun v S κ => (V14.casesOn v fun v0 v2 v3 v4 v5 v6 v7 v38 v62 v97 v140 v186 v194 v206 => 
  kNilc v0 S fun v207 S207 =>
  kFad 1 v207 S207 fun v208 S208 =>
  kLd none v208 S208 fun v209 S209 =>
  kBin .add v209 (.int .i64 1) S209 fun v210 S210 =>
  kNilc v0 S210 fun v211 S211 =>
  kFad 1 v211 S211 fun v212 S212 =>
  kSt 1 v212 v210 S212 fun v213 S213 =>
  κ .normal (V14.mk v0 v2 v3 v4 v5 v6 v7 v38 v62 v97 v140 v186 v194 v206) S213)
def c87_25 (C : Callee) : Cd V14 := fun v S κ => (V14.casesOn v fun v0 v2 v3 v4 v5 v6 v7 v38 v62 v97 v140 v186 v194 v206 => 
  kCall C 104 [v0] S fun v207 S207 =>
  κ .normal (V14.mk v0 v2 v3 v4 v5 v6 v7 v38 v62 v97 v140 v186 v194 v206) S207)
def c87_26 (C : Callee) : Cd V14 := fun v S κ => (V14.casesOn v fun v0 v2 v3 v4 v5 v6 v7 v38 v62 v97 v140 v186 v194 v206 => 
  kBuild [.int .i64 0, .string ⟨#[]⟩, .int .i64 0, .int .u64 0, .int .i64 0] [(0, 1, (.int .i64 3)), (4, 1, v3)] S fun v207 S207 =>
  kNew 118 5 [.int .i64 0, .string ⟨#[]⟩, .int .i64 0, .int .u64 0, .int .i64 0] S207 fun v208 S208 =>
  kSt 5 v208 v207 S208 fun v209 S209 =>
  κ .normal (V14.mk v0 v2 v3 v4 v5 v208 v7 v38 v62 v97 v140 v186 v194 v206) S209)
def c87_27 (C : Callee) : Cd V14 := fun v S κ => (V14.casesOn v fun v0 v2 v3 v4 v5 v6 v7 v38 v62 v97 v140 v186 v194 v206 => 
  κ .normal (V14.mk v0 v2 v3 v4 v5 v6 (.int .i64 0) v38 v62 v97 v140 v186 v194 v206) S)
def c87_28 (C : Callee) : Cd V14 := fun v S κ => (V14.casesOn v fun v0 v2 v3 v4 v5 v6 v7 v38 v62 v97 v140 v186 v194 v206 => 
  κ .normal (V14.mk v0 v2 v3 v4 v5 v6 v7 v38 v62 v97 v140 v186 v194 v4) S)
def c87_29 : V14 → Value := fun v => (V14.casesOn v fun v0 v2 v3 v4 v5 v6 v7 v38 v62 v97 v140 v186 v194 v206 => v206)
def c87_30 (C : Callee) : Cd V14 := fun v S κ => (V14.casesOn v fun v0 v2 v3 v4 v5 v6 v7 v38 v62 v97 v140 v186 v194 v206 => 
  kFad 0 v6 S fun v207 S207 =>
  kSt 1 v207 (.int .i64 2) S207 fun v208 S208 =>
  κ .normal (V14.mk v0 v2 v3 v4 v5 v6 v7 v38 v62 v97 v140 v186 v194 v206) S208)
def c87_31 (C : Callee) : Cd V14 := fun v S κ => (V14.casesOn v fun v0 v2 v3 v4 v5 v6 v7 v38 v62 v97 v140 v186 v194 v206 => 
  kNilc v0 S fun v207 S207 =>
  kFad 0 v207 S207 fun v208 S208 =>
  kLd none v208 S208 fun v209 S209 =>
  kNilc v0 S209 fun v210 S210 =>
  kFad 1 v210 S210 fun v211 S211 =>
  kLd none v211 S211 fun v212 S212 =>
  kSlS v209 (some v3) (some v212) S212 fun v213 S213 =>
  kCall C 106 [v213] S213 fun v214 S214 =>
  kExt 0 v214 S214 fun v215 S215 =>
  kExt 1 v214 S215 fun v216 S216 =>
  kFad 2 v6 S216 fun v217 S217 =>
  kSt 1 v217 v215 S217 fun v218 S218 =>
  κ .normal (V14.mk v0 v2 v3 v4 v5 v6 v216 v38 v62 v97 v140 v186 v194 v206) S218)
def c87_32 (C : Callee) : Cd V14 := fun v S κ => (V14.casesOn v fun v0 v2 v3 v4 v5 v6 v7 v38 v62 v97 v140 v186 v194 v206 => 
  kNilc v0 S fun v207 S207 =>
  kFad 0 v207 S207 fun v208 S208 =>
  kLd none v208 S208 fun v209 S209 =>
  kNilc v0 S209 fun v210 S210 =>
  kFad 1 v210 S210 fun v211 S211 =>
  kLd none v211 S211 fun v212 S212 =>
  kSlS v209 (some v3) (some v212) S212 fun v213 S213 =>
  kCall C 107 [v213] S213 fun v214 S214 =>
  kExt 0 v214 S214 fun v215 S215 =>
  kExt 1 v214 S215 fun v216 S216 =>
  kFad 3 v6 S216 fun v217 S217 =>
  kSt 1 v217 v215 S217 fun v218 S218 =>
  κ .normal (V14.mk v0 v2 v3 v4 v5 v6 v216 v38 v62 v97 v140 v186 v194 v206) S218)
def c87_33 (C : Callee) : Cd V14 := fun v S κ => (V14.casesOn v fun v0 v2 v3 v4 v5 v6 v7 v38 v62 v97 v140 v186 v194 v206 => 
  kLd (some 5) v6 S fun v207 S207 =>
  kCall C 108 [v0, v207, v7] S207 fun v208 S208 =>
  kSt 5 v2 v208 S208 fun v209 S209 =>
  κ .normal (V14.mk v0 v2 v3 v4 v5 v6 v7 v38 v62 v97 v140 v186 v194 v206) S209)
/-- (*assayer/assayerref5.lexer).number -/
def c87 (C : Callee) (n : Nat) : Cd V14 := seqK (c87_0 C) (seqK (c87_1 C) (seqK (seqK (c87_2 C) (condK c87_3 (seqK (c87_4 C) (retK)) (skipK))) (seqK (seqK (c87_5 C) (condK c87_6 (c87_7 C) (skipK))) (seqK (c87_8 C) (seqK (c87_9 C) (seqK (seqK (c87_10 C) (condK c87_11 (seqK (c87_12 C) (seqK (c87_13 C) (c87_14 C))) (skipK))) (seqK (seqK (c87_15 C) (condK c87_16 (seqK (c87_17 C) (seqK (c87_18 C) (condK c87_19 (seqK (c87_20 C) (seqK (c87_21 C) (seqK (seqK (c87_22 C) (condK c87_23 (c87_24 C) (skipK))) (c87_25 C)))) (skipK)))) (skipK))) (seqK (c87_26 C) (seqK (c87_27 C) (seqK (seqK (c87_28 C) (condK c87_29 (seqK (c87_30 C) (c87_31 C)) (c87_32 C))) (seqK (c87_33 C) (retK))))))))))))
def r87 (v : V14) (S : AW) : R := (V14.casesOn v fun v0 v2 v3 v4 v5 v6 v7 v38 v62 v97 v140 v186 v194 v206 => kLd (some 5) v2 S fun r2 _ => some (r2, S))
def g87 (C : Callee) (n : Nat) (args : List Value) (S : AW) : R := c87 C n (V14.mk (argV args 0) (argV args 2) (argV args 3) (argV args 4) (argV args 5) (argV args 6) (argV args 7) (argV args 38) (argV args 62) (argV args 97) (argV args 140) (argV args 186) (argV args 194) (argV args 206)) S fun o v S => EX.casesOn o (r87 v S) (fun _ => none) (r87 v S)
/-! (*assayer/assayerref5.parser).is -/
def c88_0 (C : Callee) : Cd V3 := fun v S κ => (V3.casesOn v fun v0 v1 v4 => 
  κ .normal (V3.mk v0 v1 (.bool false)) S)
def c88_1 (C : Callee) : Cd V3 := fun v S κ => (V3.casesOn v fun v0 v1 v4 => 
  kNilc v0 S fun v5 S5 =>
  kFad 2 v5 S5 fun v6 S6 =>
  kLd none v6 S6 fun v7 S7 =>
  kBin .eql v7 (.int .i64 0) S7 fun v8 S8 =>
  bl v8 fun b => cond b
   (kCall C 44 [v0] S8 fun v9 S9 =>
   kFld none 0 v9 S9 fun v10 S10 =>
   kBin .eql v10 (.int .i64 5) S10 fun v11 S11 =>
   bl v11 fun b => cond b
    (kCall C 44 [v0] S11 fun v12 S12 =>
    kFld none 1 v12 S12 fun v13 S13 =>
    kBin .eql v13 v1 S13 fun v14 S14 =>
    κ .normal (V3.mk v0 v1 v14) S14)
    (κ .normal (V3.mk v0 v1 (.bool false)) S11))
   (κ .normal (V3.mk v0 v1 (.bool false)) S8))
/-- (*assayer/assayerref5.parser).is -/
def c88 (C : Callee) (n : Nat) : Cd V3 := seqK (c88_0 C) (seqK (c88_1 C) (retK))
def r88 (v : V3) (S : AW) : R := (V3.casesOn v fun v0 v1 v4 => some (v4, S))
def g88 (C : Callee) (n : Nat) (args : List Value) (S : AW) : R := c88 C n (V3.mk (argV args 0) (argV args 1) (argV args 4)) S fun o v S => EX.casesOn o (r88 v S) (fun _ => none) (r88 v S)
end Go.Proofs.YtbngpadibllogaaGreatDoor.Ev
