/- The texts, for reasoning: how each function is entered and left. -/
import Derived.Test.YtgejdfhfgphcbaaKindY
import Derived.Test.YtgejdfhfgphcbaaEvS
namespace Go.Proofs.Ytgejdfhfgphcbaa.Ev
open Go Go.RowKit
set_option linter.unusedVariables false
set_option linter.constructorNameAsVariable false
noncomputable section
def u6_20t1 (C : CU) (n : Nat) : CdU W18 := seqU (blockU 1 (seqU (u6_16 C) (condU u6_17 (seqU (u6_18 C) (retU)) (skipU)))) (u6_19 C)
theorem u6_20_s (C : CU) (n : Nat) : u6_20 C n = seqU (seqU (u6_14 C) (condU u6_15 (skipU) (exitU 0))) (u6_20t1 C n) := rfl
theorem u6_20t1_s (C : CU) (n : Nat) : u6_20t1 C n = seqU (blockU 1 (seqU (u6_16 C) (condU u6_17 (seqU (u6_18 C) (retU)) (skipU)))) (u6_19 C) := rfl
def u6bt8 (C : CU) (n : Nat) : CdU W18 := seqU (u6_21 C) (retU)
def u6bt7 (C : CU) (n : Nat) : CdU W18 := seqU (seqU (u6_13 C) (blockU 0 (loopU n (u6_20 C n)))) (u6bt8 C n)
def u6bt6 (C : CU) (n : Nat) : CdU W18 := seqU (seqU (u6_10 C) (condU u6_11 (seqU (u6_12 C) (retU)) (skipU))) (u6bt7 C n)
def u6bt5 (C : CU) (n : Nat) : CdU W18 := seqU (u6_9 C) (u6bt6 C n)
def u6bt4 (C : CU) (n : Nat) : CdU W18 := seqU (u6_8 C) (u6bt5 C n)
def u6bt3 (C : CU) (n : Nat) : CdU W18 := seqU (u6_7 C) (u6bt4 C n)
def u6bt2 (C : CU) (n : Nat) : CdU W18 := seqU (seqU (u6_4 C) (condU u6_5 (seqU (u6_6 C) (retU)) (skipU))) (u6bt3 C n)
def u6bt1 (C : CU) (n : Nat) : CdU W18 := seqU (seqU (u6_1 C) (condU u6_2 (seqU (u6_3 C) (retU)) (skipU))) (u6bt2 C n)
theorem u6b_s (C : CU) (n : Nat) : u6b C n = seqU (u6_0 C) (u6bt1 C n) := rfl
theorem u6bt1_s (C : CU) (n : Nat) : u6bt1 C n = seqU (seqU (u6_1 C) (condU u6_2 (seqU (u6_3 C) (retU)) (skipU))) (u6bt2 C n) := rfl
theorem u6bt2_s (C : CU) (n : Nat) : u6bt2 C n = seqU (seqU (u6_4 C) (condU u6_5 (seqU (u6_6 C) (retU)) (skipU))) (u6bt3 C n) := rfl
theorem u6bt3_s (C : CU) (n : Nat) : u6bt3 C n = seqU (u6_7 C) (u6bt4 C n) := rfl
theorem u6bt4_s (C : CU) (n : Nat) : u6bt4 C n = seqU (u6_8 C) (u6bt5 C n) := rfl
theorem u6bt5_s (C : CU) (n : Nat) : u6bt5 C n = seqU (u6_9 C) (u6bt6 C n) := rfl
theorem u6bt6_s (C : CU) (n : Nat) : u6bt6 C n = seqU (seqU (u6_10 C) (condU u6_11 (seqU (u6_12 C) (retU)) (skipU))) (u6bt7 C n) := rfl
theorem u6bt7_s (C : CU) (n : Nat) : u6bt7 C n = seqU (seqU (u6_13 C) (blockU 0 (loopU n (u6_20 C n)))) (u6bt8 C n) := rfl
theorem u6bt8_s (C : CU) (n : Nat) : u6bt8 C n = seqU (u6_21 C) (retU) := rfl
def u7bt7 (C : CU) (n : Nat) : CdU W12 := seqU (u7_15 C) (retU)
def u7bt6 (C : CU) (n : Nat) : CdU W12 := seqU (seqU (u7_12 C) (condU u7_13 (seqU (u7_14 C) (retU)) (skipU))) (u7bt7 C n)
def u7bt5 (C : CU) (n : Nat) : CdU W12 := seqU (u7_11 C) (u7bt6 C n)
def u7bt4 (C : CU) (n : Nat) : CdU W12 := seqU (seqU (u7_8 C) (condU u7_9 (seqU (u7_10 C) (retU)) (skipU))) (u7bt5 C n)
def u7bt3 (C : CU) (n : Nat) : CdU W12 := seqU (u7_7 C) (u7bt4 C n)
def u7bt2 (C : CU) (n : Nat) : CdU W12 := seqU (seqU (u7_4 C) (condU u7_5 (seqU (u7_6 C) (retU)) (skipU))) (u7bt3 C n)
def u7bt1 (C : CU) (n : Nat) : CdU W12 := seqU (seqU (u7_1 C) (condU u7_2 (seqU (u7_3 C) (retU)) (skipU))) (u7bt2 C n)
theorem u7b_s (C : CU) (n : Nat) : u7b C n = seqU (u7_0 C) (u7bt1 C n) := rfl
theorem u7bt1_s (C : CU) (n : Nat) : u7bt1 C n = seqU (seqU (u7_1 C) (condU u7_2 (seqU (u7_3 C) (retU)) (skipU))) (u7bt2 C n) := rfl
theorem u7bt2_s (C : CU) (n : Nat) : u7bt2 C n = seqU (seqU (u7_4 C) (condU u7_5 (seqU (u7_6 C) (retU)) (skipU))) (u7bt3 C n) := rfl
theorem u7bt3_s (C : CU) (n : Nat) : u7bt3 C n = seqU (u7_7 C) (u7bt4 C n) := rfl
theorem u7bt4_s (C : CU) (n : Nat) : u7bt4 C n = seqU (seqU (u7_8 C) (condU u7_9 (seqU (u7_10 C) (retU)) (skipU))) (u7bt5 C n) := rfl
theorem u7bt5_s (C : CU) (n : Nat) : u7bt5 C n = seqU (u7_11 C) (u7bt6 C n) := rfl
theorem u7bt6_s (C : CU) (n : Nat) : u7bt6 C n = seqU (seqU (u7_12 C) (condU u7_13 (seqU (u7_14 C) (retU)) (skipU))) (u7bt7 C n) := rfl
theorem u7bt7_s (C : CU) (n : Nat) : u7bt7 C n = seqU (u7_15 C) (retU) := rfl
def u8_20t1 (C : CU) (n : Nat) : CdU W12 := seqU (blockU 1 (seqU (u8_11 C) (blockU 2 (seqU (u8_12 C) (condU u8_13 (u8_14 C) (seqU (u8_15 C) (condU u8_16 (u8_17 C) (u8_18 C)))))))) (u8_19 C)
theorem u8_20_s (C : CU) (n : Nat) : u8_20 C n = seqU (seqU (u8_9 C) (condU u8_10 (skipU) (exitU 0))) (u8_20t1 C n) := rfl
theorem u8_20t1_s (C : CU) (n : Nat) : u8_20t1 C n = seqU (blockU 1 (seqU (u8_11 C) (blockU 2 (seqU (u8_12 C) (condU u8_13 (u8_14 C) (seqU (u8_15 C) (condU u8_16 (u8_17 C) (u8_18 C)))))))) (u8_19 C) := rfl
def u8bt7 (C : CU) (n : Nat) : CdU W12 := seqU (u8_25 C) (retU)
def u8bt6 (C : CU) (n : Nat) : CdU W12 := seqU (seqU (u8_22 C) (condU u8_23 (seqU (u8_24 C) (retU)) (skipU))) (u8bt7 C n)
def u8bt5 (C : CU) (n : Nat) : CdU W12 := seqU (u8_21 C) (u8bt6 C n)
def u8bt4 (C : CU) (n : Nat) : CdU W12 := seqU (seqU (u8_8 C) (blockU 0 (loopU n (u8_20 C n)))) (u8bt5 C n)
def u8bt3 (C : CU) (n : Nat) : CdU W12 := seqU (u8_7 C) (u8bt4 C n)
def u8bt2 (C : CU) (n : Nat) : CdU W12 := seqU (seqU (u8_4 C) (condU u8_5 (seqU (u8_6 C) (retU)) (skipU))) (u8bt3 C n)
def u8bt1 (C : CU) (n : Nat) : CdU W12 := seqU (seqU (u8_1 C) (condU u8_2 (seqU (u8_3 C) (retU)) (skipU))) (u8bt2 C n)
theorem u8b_s (C : CU) (n : Nat) : u8b C n = seqU (u8_0 C) (u8bt1 C n) := rfl
theorem u8bt1_s (C : CU) (n : Nat) : u8bt1 C n = seqU (seqU (u8_1 C) (condU u8_2 (seqU (u8_3 C) (retU)) (skipU))) (u8bt2 C n) := rfl
theorem u8bt2_s (C : CU) (n : Nat) : u8bt2 C n = seqU (seqU (u8_4 C) (condU u8_5 (seqU (u8_6 C) (retU)) (skipU))) (u8bt3 C n) := rfl
theorem u8bt3_s (C : CU) (n : Nat) : u8bt3 C n = seqU (u8_7 C) (u8bt4 C n) := rfl
theorem u8bt4_s (C : CU) (n : Nat) : u8bt4 C n = seqU (seqU (u8_8 C) (blockU 0 (loopU n (u8_20 C n)))) (u8bt5 C n) := rfl
theorem u8bt5_s (C : CU) (n : Nat) : u8bt5 C n = seqU (u8_21 C) (u8bt6 C n) := rfl
theorem u8bt6_s (C : CU) (n : Nat) : u8bt6 C n = seqU (seqU (u8_22 C) (condU u8_23 (seqU (u8_24 C) (retU)) (skipU))) (u8bt7 C n) := rfl
theorem u8bt7_s (C : CU) (n : Nat) : u8bt7 C n = seqU (u8_25 C) (retU) := rfl
def u9_15t1 (C : CU) (n : Nat) : CdU W15 := seqU (blockU 1 (seqU (u9_10 C) (seqU (u9_11 C) (condU u9_12 (seqU (u9_13 C) (retU)) (skipU))))) (u9_14 C)
theorem u9_15_s (C : CU) (n : Nat) : u9_15 C n = seqU (seqU (u9_8 C) (condU u9_9 (skipU) (exitU 0))) (u9_15t1 C n) := rfl
theorem u9_15t1_s (C : CU) (n : Nat) : u9_15t1 C n = seqU (blockU 1 (seqU (u9_10 C) (seqU (u9_11 C) (condU u9_12 (seqU (u9_13 C) (retU)) (skipU))))) (u9_14 C) := rfl
def u9_24t1 (C : CU) (n : Nat) : CdU W15 := seqU (blockU 3 (seqU (u9_19 C) (seqU (u9_20 C) (condU u9_21 (seqU (u9_22 C) (retU)) (skipU))))) (u9_23 C)
theorem u9_24_s (C : CU) (n : Nat) : u9_24 C n = seqU (seqU (u9_17 C) (condU u9_18 (skipU) (exitU 2))) (u9_24t1 C n) := rfl
theorem u9_24t1_s (C : CU) (n : Nat) : u9_24t1 C n = seqU (blockU 3 (seqU (u9_19 C) (seqU (u9_20 C) (condU u9_21 (seqU (u9_22 C) (retU)) (skipU))))) (u9_23 C) := rfl
def u9bt7 (C : CU) (n : Nat) : CdU W15 := seqU (u9_25 C) (retU)
def u9bt6 (C : CU) (n : Nat) : CdU W15 := seqU (seqU (u9_16 C) (blockU 2 (loopU n (u9_24 C n)))) (u9bt7 C n)
def u9bt5 (C : CU) (n : Nat) : CdU W15 := seqU (seqU (u9_7 C) (blockU 0 (loopU n (u9_15 C n)))) (u9bt6 C n)
def u9bt4 (C : CU) (n : Nat) : CdU W15 := seqU (u9_6 C) (u9bt5 C n)
def u9bt3 (C : CU) (n : Nat) : CdU W15 := seqU (u9_5 C) (u9bt4 C n)
def u9bt2 (C : CU) (n : Nat) : CdU W15 := seqU (u9_4 C) (u9bt3 C n)
def u9bt1 (C : CU) (n : Nat) : CdU W15 := seqU (seqU (u9_1 C) (condU u9_2 (seqU (u9_3 C) (retU)) (skipU))) (u9bt2 C n)
theorem u9b_s (C : CU) (n : Nat) : u9b C n = seqU (u9_0 C) (u9bt1 C n) := rfl
theorem u9bt1_s (C : CU) (n : Nat) : u9bt1 C n = seqU (seqU (u9_1 C) (condU u9_2 (seqU (u9_3 C) (retU)) (skipU))) (u9bt2 C n) := rfl
theorem u9bt2_s (C : CU) (n : Nat) : u9bt2 C n = seqU (u9_4 C) (u9bt3 C n) := rfl
theorem u9bt3_s (C : CU) (n : Nat) : u9bt3 C n = seqU (u9_5 C) (u9bt4 C n) := rfl
theorem u9bt4_s (C : CU) (n : Nat) : u9bt4 C n = seqU (u9_6 C) (u9bt5 C n) := rfl
theorem u9bt5_s (C : CU) (n : Nat) : u9bt5 C n = seqU (seqU (u9_7 C) (blockU 0 (loopU n (u9_15 C n)))) (u9bt6 C n) := rfl
theorem u9bt6_s (C : CU) (n : Nat) : u9bt6 C n = seqU (seqU (u9_16 C) (blockU 2 (loopU n (u9_24 C n)))) (u9bt7 C n) := rfl
theorem u9bt7_s (C : CU) (n : Nat) : u9bt7 C n = seqU (u9_25 C) (retU) := rfl
def u10_25t1 (C : CU) (n : Nat) : CdU W21 := seqU (blockU 1 (seqU (u10_13 C) (seqU (u10_14 C) (blockU 2 (seqU (u10_15 C) (condU u10_16 (seqU (u10_17 C) (u10_18 C)) (seqU (u10_19 C) (condU u10_20 (seqU (u10_21 C) (u10_22 C)) (u10_23 C))))))))) (u10_24 C)
theorem u10_25_s (C : CU) (n : Nat) : u10_25 C n = seqU (seqU (u10_11 C) (condU u10_12 (skipU) (exitU 0))) (u10_25t1 C n) := rfl
theorem u10_25t1_s (C : CU) (n : Nat) : u10_25t1 C n = seqU (blockU 1 (seqU (u10_13 C) (seqU (u10_14 C) (blockU 2 (seqU (u10_15 C) (condU u10_16 (seqU (u10_17 C) (u10_18 C)) (seqU (u10_19 C) (condU u10_20 (seqU (u10_21 C) (u10_22 C)) (u10_23 C))))))))) (u10_24 C) := rfl
def u10_38t1 (C : CU) (n : Nat) : CdU W21 := seqU (blockU 4 (seqU (u10_33 C) (seqU (u10_34 C) (condU u10_35 (seqU (u10_36 C) (retU)) (skipU))))) (u10_37 C)
theorem u10_38_s (C : CU) (n : Nat) : u10_38 C n = seqU (seqU (u10_31 C) (condU u10_32 (skipU) (exitU 3))) (u10_38t1 C n) := rfl
theorem u10_38t1_s (C : CU) (n : Nat) : u10_38t1 C n = seqU (blockU 4 (seqU (u10_33 C) (seqU (u10_34 C) (condU u10_35 (seqU (u10_36 C) (retU)) (skipU))))) (u10_37 C) := rfl
def u10bt10 (C : CU) (n : Nat) : CdU W21 := seqU (u10_39 C) (retU)
def u10bt9 (C : CU) (n : Nat) : CdU W21 := seqU (seqU (u10_30 C) (blockU 3 (loopU n (u10_38 C n)))) (u10bt10 C n)
def u10bt8 (C : CU) (n : Nat) : CdU W21 := seqU (seqU (u10_27 C) (condU u10_28 (seqU (u10_29 C) (retU)) (skipU))) (u10bt9 C n)
def u10bt7 (C : CU) (n : Nat) : CdU W21 := seqU (u10_26 C) (u10bt8 C n)
def u10bt6 (C : CU) (n : Nat) : CdU W21 := seqU (seqU (u10_10 C) (blockU 0 (loopU n (u10_25 C n)))) (u10bt7 C n)
def u10bt5 (C : CU) (n : Nat) : CdU W21 := seqU (u10_9 C) (u10bt6 C n)
def u10bt4 (C : CU) (n : Nat) : CdU W21 := seqU (u10_8 C) (u10bt5 C n)
def u10bt3 (C : CU) (n : Nat) : CdU W21 := seqU (u10_7 C) (u10bt4 C n)
def u10bt2 (C : CU) (n : Nat) : CdU W21 := seqU (seqU (u10_4 C) (condU u10_5 (seqU (u10_6 C) (retU)) (skipU))) (u10bt3 C n)
def u10bt1 (C : CU) (n : Nat) : CdU W21 := seqU (seqU (u10_1 C) (condU u10_2 (seqU (u10_3 C) (retU)) (skipU))) (u10bt2 C n)
theorem u10b_s (C : CU) (n : Nat) : u10b C n = seqU (u10_0 C) (u10bt1 C n) := rfl
theorem u10bt1_s (C : CU) (n : Nat) : u10bt1 C n = seqU (seqU (u10_1 C) (condU u10_2 (seqU (u10_3 C) (retU)) (skipU))) (u10bt2 C n) := rfl
theorem u10bt2_s (C : CU) (n : Nat) : u10bt2 C n = seqU (seqU (u10_4 C) (condU u10_5 (seqU (u10_6 C) (retU)) (skipU))) (u10bt3 C n) := rfl
theorem u10bt3_s (C : CU) (n : Nat) : u10bt3 C n = seqU (u10_7 C) (u10bt4 C n) := rfl
theorem u10bt4_s (C : CU) (n : Nat) : u10bt4 C n = seqU (u10_8 C) (u10bt5 C n) := rfl
theorem u10bt5_s (C : CU) (n : Nat) : u10bt5 C n = seqU (u10_9 C) (u10bt6 C n) := rfl
theorem u10bt6_s (C : CU) (n : Nat) : u10bt6 C n = seqU (seqU (u10_10 C) (blockU 0 (loopU n (u10_25 C n)))) (u10bt7 C n) := rfl
theorem u10bt7_s (C : CU) (n : Nat) : u10bt7 C n = seqU (u10_26 C) (u10bt8 C n) := rfl
theorem u10bt8_s (C : CU) (n : Nat) : u10bt8 C n = seqU (seqU (u10_27 C) (condU u10_28 (seqU (u10_29 C) (retU)) (skipU))) (u10bt9 C n) := rfl
theorem u10bt9_s (C : CU) (n : Nat) : u10bt9 C n = seqU (seqU (u10_30 C) (blockU 3 (loopU n (u10_38 C n)))) (u10bt10 C n) := rfl
theorem u10bt10_s (C : CU) (n : Nat) : u10bt10 C n = seqU (u10_39 C) (retU) := rfl
def u20bt3 (C : CU) (n : Nat) : CdU W6 := seqU (u20_3 C) (retU)
def u20bt2 (C : CU) (n : Nat) : CdU W6 := seqU (u20_2 C) (u20bt3 C n)
def u20bt1 (C : CU) (n : Nat) : CdU W6 := seqU (u20_1 C) (u20bt2 C n)
theorem u20b_s (C : CU) (n : Nat) : u20b C n = seqU (u20_0 C) (u20bt1 C n) := rfl
theorem u20bt1_s (C : CU) (n : Nat) : u20bt1 C n = seqU (u20_1 C) (u20bt2 C n) := rfl
theorem u20bt2_s (C : CU) (n : Nat) : u20bt2 C n = seqU (u20_2 C) (u20bt3 C n) := rfl
theorem u20bt3_s (C : CU) (n : Nat) : u20bt3 C n = seqU (u20_3 C) (retU) := rfl
def u21bt6 (C : CU) (n : Nat) : CdU W13 := seqU (u21_16 C) (retU)
def u21bt5 (C : CU) (n : Nat) : CdU W13 := seqU (seqU (u21_13 C) (condU u21_14 (u21_15 C) (skipU))) (u21bt6 C n)
def u21bt4 (C : CU) (n : Nat) : CdU W13 := seqU (u21_12 C) (u21bt5 C n)
def u21bt3 (C : CU) (n : Nat) : CdU W13 := seqU (u21_11 C) (u21bt4 C n)
def u21bt2 (C : CU) (n : Nat) : CdU W13 := seqU (blockU 0 (seqU (u21_2 C) (condU u21_3 (seqU (u21_4 C) (retU)) (seqU (u21_5 C) (condU u21_6 (seqU (u21_7 C) (retU)) (seqU (u21_8 C) (condU u21_9 (seqU (u21_10 C) (retU)) (skipU)))))))) (u21bt3 C n)
def u21bt1 (C : CU) (n : Nat) : CdU W13 := seqU (u21_1 C) (u21bt2 C n)
theorem u21b_s (C : CU) (n : Nat) : u21b C n = seqU (u21_0 C) (u21bt1 C n) := rfl
theorem u21bt1_s (C : CU) (n : Nat) : u21bt1 C n = seqU (u21_1 C) (u21bt2 C n) := rfl
theorem u21bt2_s (C : CU) (n : Nat) : u21bt2 C n = seqU (blockU 0 (seqU (u21_2 C) (condU u21_3 (seqU (u21_4 C) (retU)) (seqU (u21_5 C) (condU u21_6 (seqU (u21_7 C) (retU)) (seqU (u21_8 C) (condU u21_9 (seqU (u21_10 C) (retU)) (skipU)))))))) (u21bt3 C n) := rfl
theorem u21bt3_s (C : CU) (n : Nat) : u21bt3 C n = seqU (u21_11 C) (u21bt4 C n) := rfl
theorem u21bt4_s (C : CU) (n : Nat) : u21bt4 C n = seqU (u21_12 C) (u21bt5 C n) := rfl
theorem u21bt5_s (C : CU) (n : Nat) : u21bt5 C n = seqU (seqU (u21_13 C) (condU u21_14 (u21_15 C) (skipU))) (u21bt6 C n) := rfl
theorem u21bt6_s (C : CU) (n : Nat) : u21bt6 C n = seqU (u21_16 C) (retU) := rfl
def u22bt5 (C : CU) (n : Nat) : CdU W7 := seqU (u22_9 C) (retU)
def u22bt4 (C : CU) (n : Nat) : CdU W7 := seqU (seqU (u22_6 C) (condU u22_7 (seqU (u22_8 C) (retU)) (skipU))) (u22bt5 C n)
def u22bt3 (C : CU) (n : Nat) : CdU W7 := seqU (seqU (u22_3 C) (condU u22_4 (u22_5 C) (skipU))) (u22bt4 C n)
def u22bt2 (C : CU) (n : Nat) : CdU W7 := seqU (u22_2 C) (u22bt3 C n)
def u22bt1 (C : CU) (n : Nat) : CdU W7 := seqU (u22_1 C) (u22bt2 C n)
theorem u22b_s (C : CU) (n : Nat) : u22b C n = seqU (u22_0 C) (u22bt1 C n) := rfl
theorem u22bt1_s (C : CU) (n : Nat) : u22bt1 C n = seqU (u22_1 C) (u22bt2 C n) := rfl
theorem u22bt2_s (C : CU) (n : Nat) : u22bt2 C n = seqU (u22_2 C) (u22bt3 C n) := rfl
theorem u22bt3_s (C : CU) (n : Nat) : u22bt3 C n = seqU (seqU (u22_3 C) (condU u22_4 (u22_5 C) (skipU))) (u22bt4 C n) := rfl
theorem u22bt4_s (C : CU) (n : Nat) : u22bt4 C n = seqU (seqU (u22_6 C) (condU u22_7 (seqU (u22_8 C) (retU)) (skipU))) (u22bt5 C n) := rfl
theorem u22bt5_s (C : CU) (n : Nat) : u22bt5 C n = seqU (u22_9 C) (retU) := rfl
def u23bt3 (C : CU) (n : Nat) : CdU W4 := seqU (u23_5 C) (retU)
def u23bt2 (C : CU) (n : Nat) : CdU W4 := seqU (seqU (u23_2 C) (condU u23_3 (seqU (u23_4 C) (retU)) (skipU))) (u23bt3 C n)
def u23bt1 (C : CU) (n : Nat) : CdU W4 := seqU (u23_1 C) (u23bt2 C n)
theorem u23b_s (C : CU) (n : Nat) : u23b C n = seqU (u23_0 C) (u23bt1 C n) := rfl
theorem u23bt1_s (C : CU) (n : Nat) : u23bt1 C n = seqU (u23_1 C) (u23bt2 C n) := rfl
theorem u23bt2_s (C : CU) (n : Nat) : u23bt2 C n = seqU (seqU (u23_2 C) (condU u23_3 (seqU (u23_4 C) (retU)) (skipU))) (u23bt3 C n) := rfl
theorem u23bt3_s (C : CU) (n : Nat) : u23bt3 C n = seqU (u23_5 C) (retU) := rfl
def u24bt3 (C : CU) (n : Nat) : CdU W8 := seqU (u24_14 C) (retU)
def u24bt2 (C : CU) (n : Nat) : CdU W8 := seqU (blockU 0 (seqU (u24_2 C) (condU u24_3 (seqU (u24_4 C) (retU)) (seqU (u24_5 C) (condU u24_6 (seqU (u24_7 C) (retU)) (seqU (u24_8 C) (condU u24_9 (seqU (u24_10 C) (retU)) (seqU (u24_11 C) (condU u24_12 (seqU (u24_13 C) (retU)) (skipU)))))))))) (u24bt3 C n)
def u24bt1 (C : CU) (n : Nat) : CdU W8 := seqU (u24_1 C) (u24bt2 C n)
theorem u24b_s (C : CU) (n : Nat) : u24b C n = seqU (u24_0 C) (u24bt1 C n) := rfl
theorem u24bt1_s (C : CU) (n : Nat) : u24bt1 C n = seqU (u24_1 C) (u24bt2 C n) := rfl
theorem u24bt2_s (C : CU) (n : Nat) : u24bt2 C n = seqU (blockU 0 (seqU (u24_2 C) (condU u24_3 (seqU (u24_4 C) (retU)) (seqU (u24_5 C) (condU u24_6 (seqU (u24_7 C) (retU)) (seqU (u24_8 C) (condU u24_9 (seqU (u24_10 C) (retU)) (seqU (u24_11 C) (condU u24_12 (seqU (u24_13 C) (retU)) (skipU)))))))))) (u24bt3 C n) := rfl
theorem u24bt3_s (C : CU) (n : Nat) : u24bt3 C n = seqU (u24_14 C) (retU) := rfl
def u25bt2 (C : CU) (n : Nat) : CdU W3 := seqU (u25_2 C) (retU)
def u25bt1 (C : CU) (n : Nat) : CdU W3 := seqU (u25_1 C) (u25bt2 C n)
theorem u25b_s (C : CU) (n : Nat) : u25b C n = seqU (u25_0 C) (u25bt1 C n) := rfl
theorem u25bt1_s (C : CU) (n : Nat) : u25bt1 C n = seqU (u25_1 C) (u25bt2 C n) := rfl
theorem u25bt2_s (C : CU) (n : Nat) : u25bt2 C n = seqU (u25_2 C) (retU) := rfl
def u26bt3 (C : CU) (n : Nat) : CdU W4 := seqU (u26_5 C) (retU)
def u26bt2 (C : CU) (n : Nat) : CdU W4 := seqU (seqU (u26_2 C) (condU u26_3 (seqU (u26_4 C) (retU)) (skipU))) (u26bt3 C n)
def u26bt1 (C : CU) (n : Nat) : CdU W4 := seqU (u26_1 C) (u26bt2 C n)
theorem u26b_s (C : CU) (n : Nat) : u26b C n = seqU (u26_0 C) (u26bt1 C n) := rfl
theorem u26bt1_s (C : CU) (n : Nat) : u26bt1 C n = seqU (u26_1 C) (u26bt2 C n) := rfl
theorem u26bt2_s (C : CU) (n : Nat) : u26bt2 C n = seqU (seqU (u26_2 C) (condU u26_3 (seqU (u26_4 C) (retU)) (skipU))) (u26bt3 C n) := rfl
theorem u26bt3_s (C : CU) (n : Nat) : u26bt3 C n = seqU (u26_5 C) (retU) := rfl
def u27bt5 (C : CU) (n : Nat) : CdU W7 := seqU (u27_9 C) (retU)
def u27bt4 (C : CU) (n : Nat) : CdU W7 := seqU (seqU (u27_6 C) (condU u27_7 (u27_8 C) (skipU))) (u27bt5 C n)
def u27bt3 (C : CU) (n : Nat) : CdU W7 := seqU (u27_5 C) (u27bt4 C n)
def u27bt2 (C : CU) (n : Nat) : CdU W7 := seqU (seqU (u27_2 C) (condU u27_3 (seqU (u27_4 C) (retU)) (skipU))) (u27bt3 C n)
def u27bt1 (C : CU) (n : Nat) : CdU W7 := seqU (u27_1 C) (u27bt2 C n)
theorem u27b_s (C : CU) (n : Nat) : u27b C n = seqU (u27_0 C) (u27bt1 C n) := rfl
theorem u27bt1_s (C : CU) (n : Nat) : u27bt1 C n = seqU (u27_1 C) (u27bt2 C n) := rfl
theorem u27bt2_s (C : CU) (n : Nat) : u27bt2 C n = seqU (seqU (u27_2 C) (condU u27_3 (seqU (u27_4 C) (retU)) (skipU))) (u27bt3 C n) := rfl
theorem u27bt3_s (C : CU) (n : Nat) : u27bt3 C n = seqU (u27_5 C) (u27bt4 C n) := rfl
theorem u27bt4_s (C : CU) (n : Nat) : u27bt4 C n = seqU (seqU (u27_6 C) (condU u27_7 (u27_8 C) (skipU))) (u27bt5 C n) := rfl
theorem u27bt5_s (C : CU) (n : Nat) : u27bt5 C n = seqU (u27_9 C) (retU) := rfl
def u28bt2 (C : CU) (n : Nat) : CdU W6 := seqU (u28_31 C) (retU)
def u28bt1 (C : CU) (n : Nat) : CdU W6 := seqU (seqU (u28_1 C) (blockU 0 (seqU (u28_2 C) (condU u28_3 (seqU (u28_4 C) (retU)) (seqU (u28_5 C) (condU u28_6 (seqU (u28_7 C) (retU)) (seqU (seqU (u28_8 C) (condU u28_9 (skipU) (seqU (u28_10 C) (condU u28_11 (skipU) (seqU (u28_12 C) (condU u28_13 (skipU) (seqU (u28_14 C) (condU u28_15 (skipU) (seqU (u28_16 C) (condU u28_17 (skipU) (seqU (u28_18 C) (condU u28_19 (skipU) (seqU (u28_20 C) (condU u28_21 (skipU) (seqU (u28_22 C) (condU u28_23 (skipU) (seqU (u28_24 C) (condU u28_25 (skipU) (seqU (u28_26 C) (condU u28_27 (skipU) (u28_28 C))))))))))))))))))))) (condU u28_29 (seqU (u28_30 C) (retU)) (skipU))))))))) (u28bt2 C n)
theorem u28b_s (C : CU) (n : Nat) : u28b C n = seqU (u28_0 C) (u28bt1 C n) := rfl
theorem u28bt1_s (C : CU) (n : Nat) : u28bt1 C n = seqU (seqU (u28_1 C) (blockU 0 (seqU (u28_2 C) (condU u28_3 (seqU (u28_4 C) (retU)) (seqU (u28_5 C) (condU u28_6 (seqU (u28_7 C) (retU)) (seqU (seqU (u28_8 C) (condU u28_9 (skipU) (seqU (u28_10 C) (condU u28_11 (skipU) (seqU (u28_12 C) (condU u28_13 (skipU) (seqU (u28_14 C) (condU u28_15 (skipU) (seqU (u28_16 C) (condU u28_17 (skipU) (seqU (u28_18 C) (condU u28_19 (skipU) (seqU (u28_20 C) (condU u28_21 (skipU) (seqU (u28_22 C) (condU u28_23 (skipU) (seqU (u28_24 C) (condU u28_25 (skipU) (seqU (u28_26 C) (condU u28_27 (skipU) (u28_28 C))))))))))))))))))))) (condU u28_29 (seqU (u28_30 C) (retU)) (skipU))))))))) (u28bt2 C n) := rfl
theorem u28bt2_s (C : CU) (n : Nat) : u28bt2 C n = seqU (u28_31 C) (retU) := rfl
def u29bt2 (C : CU) (n : Nat) : CdU W6 := seqU (u29_31 C) (retU)
def u29bt1 (C : CU) (n : Nat) : CdU W6 := seqU (seqU (u29_1 C) (blockU 0 (seqU (u29_2 C) (condU u29_3 (seqU (u29_4 C) (retU)) (seqU (u29_5 C) (condU u29_6 (seqU (u29_7 C) (retU)) (seqU (seqU (u29_8 C) (condU u29_9 (skipU) (seqU (u29_10 C) (condU u29_11 (skipU) (seqU (u29_12 C) (condU u29_13 (skipU) (seqU (u29_14 C) (condU u29_15 (skipU) (seqU (u29_16 C) (condU u29_17 (skipU) (seqU (u29_18 C) (condU u29_19 (skipU) (seqU (u29_20 C) (condU u29_21 (skipU) (seqU (u29_22 C) (condU u29_23 (skipU) (seqU (u29_24 C) (condU u29_25 (skipU) (seqU (u29_26 C) (condU u29_27 (skipU) (u29_28 C))))))))))))))))))))) (condU u29_29 (seqU (u29_30 C) (retU)) (skipU))))))))) (u29bt2 C n)
theorem u29b_s (C : CU) (n : Nat) : u29b C n = seqU (u29_0 C) (u29bt1 C n) := rfl
theorem u29bt1_s (C : CU) (n : Nat) : u29bt1 C n = seqU (seqU (u29_1 C) (blockU 0 (seqU (u29_2 C) (condU u29_3 (seqU (u29_4 C) (retU)) (seqU (u29_5 C) (condU u29_6 (seqU (u29_7 C) (retU)) (seqU (seqU (u29_8 C) (condU u29_9 (skipU) (seqU (u29_10 C) (condU u29_11 (skipU) (seqU (u29_12 C) (condU u29_13 (skipU) (seqU (u29_14 C) (condU u29_15 (skipU) (seqU (u29_16 C) (condU u29_17 (skipU) (seqU (u29_18 C) (condU u29_19 (skipU) (seqU (u29_20 C) (condU u29_21 (skipU) (seqU (u29_22 C) (condU u29_23 (skipU) (seqU (u29_24 C) (condU u29_25 (skipU) (seqU (u29_26 C) (condU u29_27 (skipU) (u29_28 C))))))))))))))))))))) (condU u29_29 (seqU (u29_30 C) (retU)) (skipU))))))))) (u29bt2 C n) := rfl
theorem u29bt2_s (C : CU) (n : Nat) : u29bt2 C n = seqU (u29_31 C) (retU) := rfl
def u30bt5 (C : CU) (n : Nat) : CdU W14 := seqU (u30_19 C) (retU)
def u30bt4 (C : CU) (n : Nat) : CdU W14 := seqU (seqU (u30_16 C) (condU u30_17 (seqU (u30_18 C) (retU)) (skipU))) (u30bt5 C n)
def u30bt3 (C : CU) (n : Nat) : CdU W14 := seqU (u30_15 C) (u30bt4 C n)
def u30bt2 (C : CU) (n : Nat) : CdU W14 := seqU (u30_14 C) (u30bt3 C n)
def u30bt1 (C : CU) (n : Nat) : CdU W14 := seqU (seqU (u30_1 C) (blockU 0 (seqU (u30_2 C) (condU u30_3 (seqU (u30_4 C) (retU)) (seqU (u30_5 C) (condU u30_6 (seqU (u30_7 C) (retU)) (seqU (u30_8 C) (condU u30_9 (seqU (u30_10 C) (retU)) (seqU (u30_11 C) (condU u30_12 (seqU (u30_13 C) (retU)) (skipU))))))))))) (u30bt2 C n)
theorem u30b_s (C : CU) (n : Nat) : u30b C n = seqU (u30_0 C) (u30bt1 C n) := rfl
theorem u30bt1_s (C : CU) (n : Nat) : u30bt1 C n = seqU (seqU (u30_1 C) (blockU 0 (seqU (u30_2 C) (condU u30_3 (seqU (u30_4 C) (retU)) (seqU (u30_5 C) (condU u30_6 (seqU (u30_7 C) (retU)) (seqU (u30_8 C) (condU u30_9 (seqU (u30_10 C) (retU)) (seqU (u30_11 C) (condU u30_12 (seqU (u30_13 C) (retU)) (skipU))))))))))) (u30bt2 C n) := rfl
theorem u30bt2_s (C : CU) (n : Nat) : u30bt2 C n = seqU (u30_14 C) (u30bt3 C n) := rfl
theorem u30bt3_s (C : CU) (n : Nat) : u30bt3 C n = seqU (u30_15 C) (u30bt4 C n) := rfl
theorem u30bt4_s (C : CU) (n : Nat) : u30bt4 C n = seqU (seqU (u30_16 C) (condU u30_17 (seqU (u30_18 C) (retU)) (skipU))) (u30bt5 C n) := rfl
theorem u30bt5_s (C : CU) (n : Nat) : u30bt5 C n = seqU (u30_19 C) (retU) := rfl
def u67bt4 (C : CU) (n : Nat) : CdU W4 := seqU (u67_4 C) (retU)
def u67bt3 (C : CU) (n : Nat) : CdU W4 := seqU (u67_3 C) (u67bt4 C n)
def u67bt2 (C : CU) (n : Nat) : CdU W4 := seqU (u67_2 C) (u67bt3 C n)
def u67bt1 (C : CU) (n : Nat) : CdU W4 := seqU (u67_1 C) (u67bt2 C n)
theorem u67b_s (C : CU) (n : Nat) : u67b C n = seqU (u67_0 C) (u67bt1 C n) := rfl
theorem u67bt1_s (C : CU) (n : Nat) : u67bt1 C n = seqU (u67_1 C) (u67bt2 C n) := rfl
theorem u67bt2_s (C : CU) (n : Nat) : u67bt2 C n = seqU (u67_2 C) (u67bt3 C n) := rfl
theorem u67bt3_s (C : CU) (n : Nat) : u67bt3 C n = seqU (u67_3 C) (u67bt4 C n) := rfl
theorem u67bt4_s (C : CU) (n : Nat) : u67bt4 C n = seqU (u67_4 C) (retU) := rfl
def u68bt1 (C : CU) (n : Nat) : CdU W3 := seqU (u68_1 C) (retU)
theorem u68b_s (C : CU) (n : Nat) : u68b C n = seqU (u68_0 C) (u68bt1 C n) := rfl
theorem u68bt1_s (C : CU) (n : Nat) : u68bt1 C n = seqU (u68_1 C) (retU) := rfl
def u69_22t1 (C : CU) (n : Nat) : CdU W19 := seqU (blockU 3 (seqU (u69_18 C) (condU u69_19 (seqU (u69_20 C) (exitU 2)) (skipU)))) (u69_21 C)
theorem u69_22_s (C : CU) (n : Nat) : u69_22 C n = seqU (seqU (u69_16 C) (condU u69_17 (skipU) (exitU 2))) (u69_22t1 C n) := rfl
theorem u69_22t1_s (C : CU) (n : Nat) : u69_22t1 C n = seqU (blockU 3 (seqU (u69_18 C) (condU u69_19 (seqU (u69_20 C) (exitU 2)) (skipU)))) (u69_21 C) := rfl
def u69bt13 (C : CU) (n : Nat) : CdU W19 := seqU (u69_42 C) (retU)
def u69bt12 (C : CU) (n : Nat) : CdU W19 := seqU (seqU (u69_39 C) (condU u69_40 (u69_41 C) (skipU))) (u69bt13 C n)
def u69bt11 (C : CU) (n : Nat) : CdU W19 := seqU (seqU (u69_36 C) (condU u69_37 (u69_38 C) (skipU))) (u69bt12 C n)
def u69bt10 (C : CU) (n : Nat) : CdU W19 := seqU (u69_35 C) (u69bt11 C n)
def u69bt9 (C : CU) (n : Nat) : CdU W19 := seqU (u69_34 C) (u69bt10 C n)
def u69bt8 (C : CU) (n : Nat) : CdU W19 := seqU (seqU (u69_30 C) (condU u69_31 (seqU (u69_32 C) (seqU (u69_33 C) (retU))) (skipU))) (u69bt9 C n)
def u69bt7 (C : CU) (n : Nat) : CdU W19 := seqU (seqU (u69_27 C) (condU u69_28 (seqU (u69_29 C) (retU)) (skipU))) (u69bt8 C n)
def u69bt6 (C : CU) (n : Nat) : CdU W19 := seqU (seqU (u69_12 C) (condU u69_13 (seqU (u69_14 C) (seqU (seqU (u69_15 C) (blockU 2 (loopU n (u69_22 C n)))) (seqU (seqU (u69_23 C) (condU u69_24 (u69_25 C) (skipU))) (seqU (u69_26 C) (retU))))) (skipU))) (u69bt7 C n)
def u69bt5 (C : CU) (n : Nat) : CdU W19 := seqU (u69_11 C) (u69bt6 C n)
def u69bt4 (C : CU) (n : Nat) : CdU W19 := seqU (seqU (u69_7 C) (condU u69_8 (seqU (u69_9 C) (seqU (u69_10 C) (retU))) (skipU))) (u69bt5 C n)
def u69bt3 (C : CU) (n : Nat) : CdU W19 := seqU (u69_6 C) (u69bt4 C n)
def u69bt2 (C : CU) (n : Nat) : CdU W19 := seqU (blockU 0 (loopU n (u69_5 C n))) (u69bt3 C n)
def u69bt1 (C : CU) (n : Nat) : CdU W19 := seqU (u69_1 C) (u69bt2 C n)
theorem u69b_s (C : CU) (n : Nat) : u69b C n = seqU (u69_0 C) (u69bt1 C n) := rfl
theorem u69bt1_s (C : CU) (n : Nat) : u69bt1 C n = seqU (u69_1 C) (u69bt2 C n) := rfl
theorem u69bt2_s (C : CU) (n : Nat) : u69bt2 C n = seqU (blockU 0 (loopU n (u69_5 C n))) (u69bt3 C n) := rfl
theorem u69bt3_s (C : CU) (n : Nat) : u69bt3 C n = seqU (u69_6 C) (u69bt4 C n) := rfl
theorem u69bt4_s (C : CU) (n : Nat) : u69bt4 C n = seqU (seqU (u69_7 C) (condU u69_8 (seqU (u69_9 C) (seqU (u69_10 C) (retU))) (skipU))) (u69bt5 C n) := rfl
theorem u69bt5_s (C : CU) (n : Nat) : u69bt5 C n = seqU (u69_11 C) (u69bt6 C n) := rfl
theorem u69bt6_s (C : CU) (n : Nat) : u69bt6 C n = seqU (seqU (u69_12 C) (condU u69_13 (seqU (u69_14 C) (seqU (seqU (u69_15 C) (blockU 2 (loopU n (u69_22 C n)))) (seqU (seqU (u69_23 C) (condU u69_24 (u69_25 C) (skipU))) (seqU (u69_26 C) (retU))))) (skipU))) (u69bt7 C n) := rfl
theorem u69bt7_s (C : CU) (n : Nat) : u69bt7 C n = seqU (seqU (u69_27 C) (condU u69_28 (seqU (u69_29 C) (retU)) (skipU))) (u69bt8 C n) := rfl
theorem u69bt8_s (C : CU) (n : Nat) : u69bt8 C n = seqU (seqU (u69_30 C) (condU u69_31 (seqU (u69_32 C) (seqU (u69_33 C) (retU))) (skipU))) (u69bt9 C n) := rfl
theorem u69bt9_s (C : CU) (n : Nat) : u69bt9 C n = seqU (u69_34 C) (u69bt10 C n) := rfl
theorem u69bt10_s (C : CU) (n : Nat) : u69bt10 C n = seqU (u69_35 C) (u69bt11 C n) := rfl
theorem u69bt11_s (C : CU) (n : Nat) : u69bt11 C n = seqU (seqU (u69_36 C) (condU u69_37 (u69_38 C) (skipU))) (u69bt12 C n) := rfl
theorem u69bt12_s (C : CU) (n : Nat) : u69bt12 C n = seqU (seqU (u69_39 C) (condU u69_40 (u69_41 C) (skipU))) (u69bt13 C n) := rfl
theorem u69bt13_s (C : CU) (n : Nat) : u69bt13 C n = seqU (u69_42 C) (retU) := rfl
def u70_9t2 (C : CU) (n : Nat) : CdU W8 := seqU (blockU 1 (seqU (u70_4 C) (seqU (u70_5 C) (condU u70_6 (seqU (u70_7 C) (retU)) (skipU))))) (u70_8 C)
def u70_9t1 (C : CU) (n : Nat) : CdU W8 := seqU (condU u70_3 (skipU) (exitU 0)) (u70_9t2 C n)
theorem u70_9_s (C : CU) (n : Nat) : u70_9 C n = seqU (u70_2 C) (u70_9t1 C n) := rfl
theorem u70_9t1_s (C : CU) (n : Nat) : u70_9t1 C n = seqU (condU u70_3 (skipU) (exitU 0)) (u70_9t2 C n) := rfl
theorem u70_9t2_s (C : CU) (n : Nat) : u70_9t2 C n = seqU (blockU 1 (seqU (u70_4 C) (seqU (u70_5 C) (condU u70_6 (seqU (u70_7 C) (retU)) (skipU))))) (u70_8 C) := rfl
def u70bt2 (C : CU) (n : Nat) : CdU W8 := seqU (u70_10 C) (retU)
def u70bt1 (C : CU) (n : Nat) : CdU W8 := seqU (seqU (u70_1 C) (blockU 0 (loopU n (u70_9 C n)))) (u70bt2 C n)
theorem u70b_s (C : CU) (n : Nat) : u70b C n = seqU (u70_0 C) (u70bt1 C n) := rfl
theorem u70bt1_s (C : CU) (n : Nat) : u70bt1 C n = seqU (seqU (u70_1 C) (blockU 0 (loopU n (u70_9 C n)))) (u70bt2 C n) := rfl
theorem u70bt2_s (C : CU) (n : Nat) : u70bt2 C n = seqU (u70_10 C) (retU) := rfl
def u71bt1 (C : CU) (n : Nat) : CdU W3 := seqU (u71_1 C) (retU)
theorem u71b_s (C : CU) (n : Nat) : u71b C n = seqU (u71_0 C) (u71bt1 C n) := rfl
theorem u71bt1_s (C : CU) (n : Nat) : u71bt1 C n = seqU (u71_1 C) (retU) := rfl
def u72bt2 (C : CU) (n : Nat) : CdU W14 := seqU (u72_35 C) (retU)
def u72bt1 (C : CU) (n : Nat) : CdU W14 := seqU (seqU (u72_1 C) (blockU 0 (seqU (u72_2 C) (condU u72_3 (seqU (u72_4 C) (retU)) (seqU (u72_5 C) (condU u72_6 (seqU (u72_7 C) (retU)) (seqU (u72_8 C) (condU u72_9 (seqU (u72_10 C) (retU)) (seqU (u72_11 C) (condU u72_12 (seqU (u72_13 C) (retU)) (seqU (u72_14 C) (condU u72_15 (seqU (u72_16 C) (retU)) (seqU (u72_17 C) (condU u72_18 (seqU (u72_19 C) (retU)) (seqU (u72_20 C) (condU u72_21 (seqU (u72_22 C) (retU)) (seqU (u72_23 C) (condU u72_24 (seqU (u72_25 C) (retU)) (seqU (u72_26 C) (condU u72_27 (seqU (u72_28 C) (retU)) (seqU (u72_29 C) (condU u72_30 (seqU (u72_31 C) (retU)) (seqU (u72_32 C) (condU u72_33 (seqU (u72_34 C) (retU)) (skipU))))))))))))))))))))))))) (u72bt2 C n)
theorem u72b_s (C : CU) (n : Nat) : u72b C n = seqU (u72_0 C) (u72bt1 C n) := rfl
theorem u72bt1_s (C : CU) (n : Nat) : u72bt1 C n = seqU (seqU (u72_1 C) (blockU 0 (seqU (u72_2 C) (condU u72_3 (seqU (u72_4 C) (retU)) (seqU (u72_5 C) (condU u72_6 (seqU (u72_7 C) (retU)) (seqU (u72_8 C) (condU u72_9 (seqU (u72_10 C) (retU)) (seqU (u72_11 C) (condU u72_12 (seqU (u72_13 C) (retU)) (seqU (u72_14 C) (condU u72_15 (seqU (u72_16 C) (retU)) (seqU (u72_17 C) (condU u72_18 (seqU (u72_19 C) (retU)) (seqU (u72_20 C) (condU u72_21 (seqU (u72_22 C) (retU)) (seqU (u72_23 C) (condU u72_24 (seqU (u72_25 C) (retU)) (seqU (u72_26 C) (condU u72_27 (seqU (u72_28 C) (retU)) (seqU (u72_29 C) (condU u72_30 (seqU (u72_31 C) (retU)) (seqU (u72_32 C) (condU u72_33 (seqU (u72_34 C) (retU)) (skipU))))))))))))))))))))))))) (u72bt2 C n) := rfl
theorem u72bt2_s (C : CU) (n : Nat) : u72bt2 C n = seqU (u72_35 C) (retU) := rfl
def u91_25t2 (C : CU) (n : Nat) : CdU W14 := seqU (blockU 1 (seqU (u91_18 C) (seqU (u91_19 C) (seqU (seqU (u91_20 C) (condU u91_21 (u91_22 C) (skipU))) (u91_23 C))))) (u91_24 C)
def u91_25t1 (C : CU) (n : Nat) : CdU W14 := seqU (condU u91_17 (skipU) (exitU 0)) (u91_25t2 C n)
theorem u91_25_s (C : CU) (n : Nat) : u91_25 C n = seqU (u91_16 C) (u91_25t1 C n) := rfl
theorem u91_25t1_s (C : CU) (n : Nat) : u91_25t1 C n = seqU (condU u91_17 (skipU) (exitU 0)) (u91_25t2 C n) := rfl
theorem u91_25t2_s (C : CU) (n : Nat) : u91_25t2 C n = seqU (blockU 1 (seqU (u91_18 C) (seqU (u91_19 C) (seqU (seqU (u91_20 C) (condU u91_21 (u91_22 C) (skipU))) (u91_23 C))))) (u91_24 C) := rfl
def u91bt10 (C : CU) (n : Nat) : CdU W14 := seqU (u91_27 C) (retU)
def u91bt9 (C : CU) (n : Nat) : CdU W14 := seqU (u91_26 C) (u91bt10 C n)
def u91bt8 (C : CU) (n : Nat) : CdU W14 := seqU (seqU (u91_15 C) (blockU 0 (loopU n (u91_25 C n)))) (u91bt9 C n)
def u91bt7 (C : CU) (n : Nat) : CdU W14 := seqU (u91_14 C) (u91bt8 C n)
def u91bt6 (C : CU) (n : Nat) : CdU W14 := seqU (u91_13 C) (u91bt7 C n)
def u91bt5 (C : CU) (n : Nat) : CdU W14 := seqU (seqU (u91_10 C) (condU u91_11 (seqU (u91_12 C) (retU)) (skipU))) (u91bt6 C n)
def u91bt4 (C : CU) (n : Nat) : CdU W14 := seqU (u91_9 C) (u91bt5 C n)
def u91bt3 (C : CU) (n : Nat) : CdU W14 := seqU (seqU (u91_3 C) (seqU (u91_4 C) (condU u91_5 (seqU (u91_6 C) (seqU (u91_7 C) (seqU (u91_8 C) (retU)))) (skipU)))) (u91bt4 C n)
def u91bt2 (C : CU) (n : Nat) : CdU W14 := seqU (u91_2 C) (u91bt3 C n)
def u91bt1 (C : CU) (n : Nat) : CdU W14 := seqU (u91_1 C) (u91bt2 C n)
theorem u91b_s (C : CU) (n : Nat) : u91b C n = seqU (u91_0 C) (u91bt1 C n) := rfl
theorem u91bt1_s (C : CU) (n : Nat) : u91bt1 C n = seqU (u91_1 C) (u91bt2 C n) := rfl
theorem u91bt2_s (C : CU) (n : Nat) : u91bt2 C n = seqU (u91_2 C) (u91bt3 C n) := rfl
theorem u91bt3_s (C : CU) (n : Nat) : u91bt3 C n = seqU (seqU (u91_3 C) (seqU (u91_4 C) (condU u91_5 (seqU (u91_6 C) (seqU (u91_7 C) (seqU (u91_8 C) (retU)))) (skipU)))) (u91bt4 C n) := rfl
theorem u91bt4_s (C : CU) (n : Nat) : u91bt4 C n = seqU (u91_9 C) (u91bt5 C n) := rfl
theorem u91bt5_s (C : CU) (n : Nat) : u91bt5 C n = seqU (seqU (u91_10 C) (condU u91_11 (seqU (u91_12 C) (retU)) (skipU))) (u91bt6 C n) := rfl
theorem u91bt6_s (C : CU) (n : Nat) : u91bt6 C n = seqU (u91_13 C) (u91bt7 C n) := rfl
theorem u91bt7_s (C : CU) (n : Nat) : u91bt7 C n = seqU (u91_14 C) (u91bt8 C n) := rfl
theorem u91bt8_s (C : CU) (n : Nat) : u91bt8 C n = seqU (seqU (u91_15 C) (blockU 0 (loopU n (u91_25 C n)))) (u91bt9 C n) := rfl
theorem u91bt9_s (C : CU) (n : Nat) : u91bt9 C n = seqU (u91_26 C) (u91bt10 C n) := rfl
theorem u91bt10_s (C : CU) (n : Nat) : u91bt10 C n = seqU (u91_27 C) (retU) := rfl
def u93bt1 (C : CU) (n : Nat) : CdU W3 := seqU (u93_1 C) (retU)
theorem u93b_s (C : CU) (n : Nat) : u93b C n = seqU (u93_0 C) (u93bt1 C n) := rfl
theorem u93bt1_s (C : CU) (n : Nat) : u93bt1 C n = seqU (u93_1 C) (retU) := rfl
def u94bt1 (C : CU) (n : Nat) : CdU W2 := seqU (u94_1 C) (retU)
theorem u94b_s (C : CU) (n : Nat) : u94b C n = seqU (u94_0 C) (u94bt1 C n) := rfl
theorem u94bt1_s (C : CU) (n : Nat) : u94bt1 C n = seqU (u94_1 C) (retU) := rfl
def u95bt1 (C : CU) (n : Nat) : CdU W2 := seqU (u95_1 C) (retU)
theorem u95b_s (C : CU) (n : Nat) : u95b C n = seqU (u95_0 C) (u95bt1 C n) := rfl
theorem u95bt1_s (C : CU) (n : Nat) : u95bt1 C n = seqU (u95_1 C) (retU) := rfl
def u96_11t1 (C : CU) (n : Nat) : CdU W6 := seqU (blockU 1 (seqU (u96_7 C) (condU u96_8 (seqU (u96_9 C) (retU)) (skipU)))) (u96_10 C)
theorem u96_11_s (C : CU) (n : Nat) : u96_11 C n = seqU (seqU (u96_5 C) (condU u96_6 (skipU) (exitU 0))) (u96_11t1 C n) := rfl
theorem u96_11t1_s (C : CU) (n : Nat) : u96_11t1 C n = seqU (blockU 1 (seqU (u96_7 C) (condU u96_8 (seqU (u96_9 C) (retU)) (skipU)))) (u96_10 C) := rfl
def u96bt3 (C : CU) (n : Nat) : CdU W6 := seqU (u96_12 C) (retU)
def u96bt2 (C : CU) (n : Nat) : CdU W6 := seqU (seqU (u96_4 C) (blockU 0 (loopU n (u96_11 C n)))) (u96bt3 C n)
def u96bt1 (C : CU) (n : Nat) : CdU W6 := seqU (seqU (u96_1 C) (condU u96_2 (seqU (u96_3 C) (retU)) (skipU))) (u96bt2 C n)
theorem u96b_s (C : CU) (n : Nat) : u96b C n = seqU (u96_0 C) (u96bt1 C n) := rfl
theorem u96bt1_s (C : CU) (n : Nat) : u96bt1 C n = seqU (seqU (u96_1 C) (condU u96_2 (seqU (u96_3 C) (retU)) (skipU))) (u96bt2 C n) := rfl
theorem u96bt2_s (C : CU) (n : Nat) : u96bt2 C n = seqU (seqU (u96_4 C) (blockU 0 (loopU n (u96_11 C n)))) (u96bt3 C n) := rfl
theorem u96bt3_s (C : CU) (n : Nat) : u96bt3 C n = seqU (u96_12 C) (retU) := rfl
def u97bt2 (C : CU) (n : Nat) : CdU W14 := seqU (u97_35 C) (retU)
def u97bt1 (C : CU) (n : Nat) : CdU W14 := seqU (seqU (u97_1 C) (blockU 0 (seqU (u97_2 C) (condU u97_3 (seqU (u97_4 C) (retU)) (seqU (u97_5 C) (condU u97_6 (seqU (u97_7 C) (retU)) (seqU (u97_8 C) (condU u97_9 (seqU (u97_10 C) (retU)) (seqU (u97_11 C) (condU u97_12 (seqU (u97_13 C) (retU)) (seqU (u97_14 C) (condU u97_15 (seqU (u97_16 C) (retU)) (seqU (u97_17 C) (condU u97_18 (seqU (u97_19 C) (retU)) (seqU (u97_20 C) (condU u97_21 (seqU (u97_22 C) (retU)) (seqU (u97_23 C) (condU u97_24 (seqU (u97_25 C) (retU)) (seqU (u97_26 C) (condU u97_27 (seqU (u97_28 C) (retU)) (seqU (u97_29 C) (condU u97_30 (seqU (u97_31 C) (retU)) (seqU (u97_32 C) (condU u97_33 (seqU (u97_34 C) (retU)) (skipU))))))))))))))))))))))))) (u97bt2 C n)
theorem u97b_s (C : CU) (n : Nat) : u97b C n = seqU (u97_0 C) (u97bt1 C n) := rfl
theorem u97bt1_s (C : CU) (n : Nat) : u97bt1 C n = seqU (seqU (u97_1 C) (blockU 0 (seqU (u97_2 C) (condU u97_3 (seqU (u97_4 C) (retU)) (seqU (u97_5 C) (condU u97_6 (seqU (u97_7 C) (retU)) (seqU (u97_8 C) (condU u97_9 (seqU (u97_10 C) (retU)) (seqU (u97_11 C) (condU u97_12 (seqU (u97_13 C) (retU)) (seqU (u97_14 C) (condU u97_15 (seqU (u97_16 C) (retU)) (seqU (u97_17 C) (condU u97_18 (seqU (u97_19 C) (retU)) (seqU (u97_20 C) (condU u97_21 (seqU (u97_22 C) (retU)) (seqU (u97_23 C) (condU u97_24 (seqU (u97_25 C) (retU)) (seqU (u97_26 C) (condU u97_27 (seqU (u97_28 C) (retU)) (seqU (u97_29 C) (condU u97_30 (seqU (u97_31 C) (retU)) (seqU (u97_32 C) (condU u97_33 (seqU (u97_34 C) (retU)) (skipU))))))))))))))))))))))))) (u97bt2 C n) := rfl
theorem u97bt2_s (C : CU) (n : Nat) : u97bt2 C n = seqU (u97_35 C) (retU) := rfl
def u98bt5 (C : CU) (n : Nat) : CdU W7 := seqU (u98_9 C) (retU)
def u98bt4 (C : CU) (n : Nat) : CdU W7 := seqU (seqU (u98_6 C) (condU u98_7 (u98_8 C) (skipU))) (u98bt5 C n)
def u98bt3 (C : CU) (n : Nat) : CdU W7 := seqU (u98_5 C) (u98bt4 C n)
def u98bt2 (C : CU) (n : Nat) : CdU W7 := seqU (u98_4 C) (u98bt3 C n)
def u98bt1 (C : CU) (n : Nat) : CdU W7 := seqU (seqU (u98_1 C) (condU u98_2 (seqU (u98_3 C) (retU)) (skipU))) (u98bt2 C n)
theorem u98b_s (C : CU) (n : Nat) : u98b C n = seqU (u98_0 C) (u98bt1 C n) := rfl
theorem u98bt1_s (C : CU) (n : Nat) : u98bt1 C n = seqU (seqU (u98_1 C) (condU u98_2 (seqU (u98_3 C) (retU)) (skipU))) (u98bt2 C n) := rfl
theorem u98bt2_s (C : CU) (n : Nat) : u98bt2 C n = seqU (u98_4 C) (u98bt3 C n) := rfl
theorem u98bt3_s (C : CU) (n : Nat) : u98bt3 C n = seqU (u98_5 C) (u98bt4 C n) := rfl
theorem u98bt4_s (C : CU) (n : Nat) : u98bt4 C n = seqU (seqU (u98_6 C) (condU u98_7 (u98_8 C) (skipU))) (u98bt5 C n) := rfl
theorem u98bt5_s (C : CU) (n : Nat) : u98bt5 C n = seqU (u98_9 C) (retU) := rfl
def u104bt4 (C : CU) (n : Nat) : CdU W4 := seqU (u104_7 C) (retU)
def u104bt3 (C : CU) (n : Nat) : CdU W4 := seqU (blockU 0 (loopU n (u104_6 C n))) (u104bt4 C n)
def u104bt2 (C : CU) (n : Nat) : CdU W4 := seqU (u104_2 C) (u104bt3 C n)
def u104bt1 (C : CU) (n : Nat) : CdU W4 := seqU (u104_1 C) (u104bt2 C n)
theorem u104b_s (C : CU) (n : Nat) : u104b C n = seqU (u104_0 C) (u104bt1 C n) := rfl
theorem u104bt1_s (C : CU) (n : Nat) : u104bt1 C n = seqU (u104_1 C) (u104bt2 C n) := rfl
theorem u104bt2_s (C : CU) (n : Nat) : u104bt2 C n = seqU (u104_2 C) (u104bt3 C n) := rfl
theorem u104bt3_s (C : CU) (n : Nat) : u104bt3 C n = seqU (blockU 0 (loopU n (u104_6 C n))) (u104bt4 C n) := rfl
theorem u104bt4_s (C : CU) (n : Nat) : u104bt4 C n = seqU (u104_7 C) (retU) := rfl
def u105bt3 (C : CU) (n : Nat) : CdU W4 := seqU (u105_7 C) (retU)
def u105bt2 (C : CU) (n : Nat) : CdU W4 := seqU (blockU 0 (loopU n (u105_6 C n))) (u105bt3 C n)
def u105bt1 (C : CU) (n : Nat) : CdU W4 := seqU (u105_1 C) (u105bt2 C n)
theorem u105b_s (C : CU) (n : Nat) : u105b C n = seqU (u105_0 C) (u105bt1 C n) := rfl
theorem u105bt1_s (C : CU) (n : Nat) : u105bt1 C n = seqU (u105_1 C) (u105bt2 C n) := rfl
theorem u105bt2_s (C : CU) (n : Nat) : u105bt2 C n = seqU (blockU 0 (loopU n (u105_6 C n))) (u105bt3 C n) := rfl
theorem u105bt3_s (C : CU) (n : Nat) : u105bt3 C n = seqU (u105_7 C) (retU) := rfl
def u106bt2 (C : CU) (n : Nat) : CdU W5 := seqU (u106_10 C) (retU)
def u106bt1 (C : CU) (n : Nat) : CdU W5 := seqU (seqU (u106_1 C) (blockU 0 (seqU (seqU (u106_2 C) (condU u106_3 (skipU) (u106_4 C))) (condU u106_5 (seqU (u106_6 C) (retU)) (seqU (u106_7 C) (condU u106_8 (seqU (u106_9 C) (retU)) (skipU))))))) (u106bt2 C n)
theorem u106b_s (C : CU) (n : Nat) : u106b C n = seqU (u106_0 C) (u106bt1 C n) := rfl
theorem u106bt1_s (C : CU) (n : Nat) : u106bt1 C n = seqU (seqU (u106_1 C) (blockU 0 (seqU (seqU (u106_2 C) (condU u106_3 (skipU) (u106_4 C))) (condU u106_5 (seqU (u106_6 C) (retU)) (seqU (u106_7 C) (condU u106_8 (seqU (u106_9 C) (retU)) (skipU))))))) (u106bt2 C n) := rfl
theorem u106bt2_s (C : CU) (n : Nat) : u106bt2 C n = seqU (u106_10 C) (retU) := rfl
def u107bt1 (C : CU) (n : Nat) : CdU W3 := seqU (u107_1 C) (condU u107_2 (u107_3 C) (skipU))
theorem u107b_s (C : CU) (n : Nat) : u107b C n = seqU (u107_0 C) (u107bt1 C n) := rfl
theorem u107bt1_s (C : CU) (n : Nat) : u107bt1 C n = seqU (u107_1 C) (condU u107_2 (u107_3 C) (skipU)) := rfl
def u109bt1 (C : CU) (n : Nat) : CdU W2 := seqU (u109_1 C) (retU)
theorem u109b_s (C : CU) (n : Nat) : u109b C n = seqU (u109_0 C) (u109bt1 C n) := rfl
theorem u109bt1_s (C : CU) (n : Nat) : u109bt1 C n = seqU (u109_1 C) (retU) := rfl
end
theorem u6_in (C : CU) (n : Nat) (p0 p1 : FV) (F : FAW) : u6 C n [p0, p1] F = u6b C n (.mk p0 p1 (.u []) (.u []) (.u []) (.u []) (.u []) (.u []) (.u []) (.u []) (.u []) (.u []) (.u []) (.u []) (.u []) (.u []) (.u []) (.u [])) F fun o v F => exU o (u6r v F) (fun _ => .no) (u6r v F) := rfl
theorem u6r_mk (a c d e f g h i j k l m o p q r s t : FV) (S : FAW) : u6r (.mk a c d e f g h i j k l m o p q r s t ) S = .ok d S := rfl
theorem cl6 (n : Nat) (args : List FV) (F : FAW) : clU kindD (n + 1) 6 args F = u6 (clU kindD n) n args F := clU_get (fun k => by kernel_rfl) n args F
theorem u7_in (C : CU) (n : Nat) (p0 : FV) (F : FAW) : u7 C n [p0] F = u7b C n (.mk p0 (.u []) (.u []) (.u []) (.u []) (.u []) (.u []) (.u []) (.u []) (.u []) (.u []) (.u [])) F fun o v F => exU o (u7r v F) (fun _ => .no) (u7r v F) := rfl
theorem u7r_mk (a c d e f g h i j k l m : FV) (S : FAW) : u7r (.mk a c d e f g h i j k l m ) S = .ok c S := rfl
theorem cl7 (n : Nat) (args : List FV) (F : FAW) : clU kindD (n + 1) 7 args F = u7 (clU kindD n) n args F := clU_get (fun k => by kernel_rfl) n args F
theorem u8_in (C : CU) (n : Nat) (p0 : FV) (F : FAW) : u8 C n [p0] F = u8b C n (.mk p0 (.u []) (.u []) (.u []) (.u []) (.u []) (.u []) (.u []) (.u []) (.u []) (.u []) (.u [])) F fun o v F => exU o (u8r v F) (fun _ => .no) (u8r v F) := rfl
theorem u8r_mk (a c d e f g h i j k l m : FV) (S : FAW) : u8r (.mk a c d e f g h i j k l m ) S = .ok c S := rfl
theorem cl8 (n : Nat) (args : List FV) (F : FAW) : clU kindD (n + 1) 8 args F = u8 (clU kindD n) n args F := clU_get (fun k => by kernel_rfl) n args F
theorem u9_in (C : CU) (n : Nat) (F : FAW) : u9 C n [] F = u9b C n (.mk (.u []) (.u []) (.u []) (.u []) (.u []) (.u []) (.u []) (.u []) (.u []) (.u []) (.u []) (.u []) (.u []) (.u []) (.u [])) F fun o v F => exU o (u9r v F) (fun _ => .no) (u9r v F) := rfl
theorem u9r_mk (a c d e f g h i j k l m o p q : FV) (S : FAW) : u9r (.mk a c d e f g h i j k l m o p q ) S = .ok a S := rfl
theorem cl9 (n : Nat) (args : List FV) (F : FAW) : clU kindD (n + 1) 9 args F = u9 (clU kindD n) n args F := clU_get (fun k => by kernel_rfl) n args F
theorem u10_in (C : CU) (n : Nat) (p0 : FV) (F : FAW) : u10 C n [p0] F = u10b C n (.mk p0 (.u []) (.u []) (.u []) (.u []) (.u []) (.u []) (.u []) (.u []) (.u []) (.u []) (.u []) (.u []) (.u []) (.u []) (.u []) (.u []) (.u []) (.u []) (.u []) (.u [])) F fun o v F => exU o (u10r v F) (fun _ => .no) (u10r v F) := rfl
theorem u10r_mk (a c d e f g h i j k l m o p q r s t w x y : FV) (S : FAW) : u10r (.mk a c d e f g h i j k l m o p q r s t w x y ) S = .ok c S := rfl
theorem cl10 (n : Nat) (args : List FV) (F : FAW) : clU kindD (n + 1) 10 args F = u10 (clU kindD n) n args F := clU_get (fun k => by kernel_rfl) n args F
theorem u20_in (C : CU) (n : Nat) (F : FAW) : u20 C n [] F = u20b C n (.mk (.u []) (.u []) (.u []) (.u []) (.u []) (.u [])) F fun o v F => exU o (u20r v F) (fun _ => .no) (u20r v F) := rfl
theorem u20r_mk (a c d e f g : FV) (S : FAW) : u20r (.mk a c d e f g ) S = .ok a S := rfl
theorem cl20 (n : Nat) (args : List FV) (F : FAW) : clU kindD (n + 1) 20 args F = u20 (clU kindD n) n args F := clU_get (fun k => by kernel_rfl) n args F
theorem u21_in (C : CU) (n : Nat) (p0 : FV) (F : FAW) : u21 C n [p0] F = u21b C n (.mk p0 (.u []) (.u []) (.u []) (.u []) (.u []) (.u []) (.u []) (.u []) (.u []) (.u []) (.u []) (.u [])) F fun o v F => exU o (u21r v F) (fun _ => .no) (u21r v F) := rfl
theorem u21r_mk (a c d e f g h i j k l m o : FV) (S : FAW) : u21r (.mk a c d e f g h i j k l m o ) S = .ok (.u [c, d, e, f, g]) S := rfl
theorem cl21 (n : Nat) (args : List FV) (F : FAW) : clU kindD (n + 1) 21 args F = u21 (clU kindD n) n args F := clU_get (fun k => by kernel_rfl) n args F
theorem u22_in (C : CU) (n : Nat) (p0 : FV) (F : FAW) : u22 C n [p0] F = u22b C n (.mk p0 (.u []) (.u []) (.u []) (.u []) (.u []) (.u [])) F fun o v F => exU o (u22r v F) (fun _ => .no) (u22r v F) := rfl
theorem u22r_mk (a c d e f g h : FV) (S : FAW) : u22r (.mk a c d e f g h ) S = uLd (some 4) c S fun r2 _ => .ok (.u [r2, d]) S := rfl
theorem cl22 (n : Nat) (args : List FV) (F : FAW) : clU kindD (n + 1) 22 args F = u22 (clU kindD n) n args F := clU_get (fun k => by kernel_rfl) n args F
theorem u23_in (C : CU) (n : Nat) (p0 : FV) (F : FAW) : u23 C n [p0] F = u23b C n (.mk p0 (.u []) (.u []) (.u [])) F fun o v F => exU o (u23r v F) (fun _ => .no) (u23r v F) := rfl
theorem u23r_mk (a c d e : FV) (S : FAW) : u23r (.mk a c d e ) S = .ok c S := rfl
theorem cl23 (n : Nat) (args : List FV) (F : FAW) : clU kindD (n + 1) 23 args F = u23 (clU kindD n) n args F := clU_get (fun k => by kernel_rfl) n args F
theorem u24_in (C : CU) (n : Nat) (p0 : FV) (F : FAW) : u24 C n [p0] F = u24b C n (.mk p0 (.u []) (.u []) (.u []) (.u []) (.u []) (.u []) (.u [])) F fun o v F => exU o (u24r v F) (fun _ => .no) (u24r v F) := rfl
theorem u24r_mk (a c d e f g h i : FV) (S : FAW) : u24r (.mk a c d e f g h i ) S = .ok c S := rfl
theorem cl24 (n : Nat) (args : List FV) (F : FAW) : clU kindD (n + 1) 24 args F = u24 (clU kindD n) n args F := clU_get (fun k => by kernel_rfl) n args F
theorem u25_in (C : CU) (n : Nat) (p0 : FV) (F : FAW) : u25 C n [p0] F = u25b C n (.mk p0 (.u []) (.u [])) F fun o v F => exU o (u25r v F) (fun _ => .no) (u25r v F) := rfl
theorem u25r_mk (a c d : FV) (S : FAW) : u25r (.mk a c d ) S = .ok c S := rfl
theorem cl25 (n : Nat) (args : List FV) (F : FAW) : clU kindD (n + 1) 25 args F = u25 (clU kindD n) n args F := clU_get (fun k => by kernel_rfl) n args F
theorem u26_in (C : CU) (n : Nat) (p0 : FV) (F : FAW) : u26 C n [p0] F = u26b C n (.mk p0 (.u []) (.u []) (.u [])) F fun o v F => exU o (u26r v F) (fun _ => .no) (u26r v F) := rfl
theorem u26r_mk (a c d e : FV) (S : FAW) : u26r (.mk a c d e ) S = .ok c S := rfl
theorem cl26 (n : Nat) (args : List FV) (F : FAW) : clU kindD (n + 1) 26 args F = u26 (clU kindD n) n args F := clU_get (fun k => by kernel_rfl) n args F
theorem u27_in (C : CU) (n : Nat) (p0 : FV) (F : FAW) : u27 C n [p0] F = u27b C n (.mk p0 (.u []) (.u []) (.u []) (.u []) (.u []) (.u [])) F fun o v F => exU o (u27r v F) (fun _ => .no) (u27r v F) := rfl
theorem u27r_mk (a c d e f g h : FV) (S : FAW) : u27r (.mk a c d e f g h ) S = .ok c S := rfl
theorem cl27 (n : Nat) (args : List FV) (F : FAW) : clU kindD (n + 1) 27 args F = u27 (clU kindD n) n args F := clU_get (fun k => by kernel_rfl) n args F
theorem u28_in (C : CU) (n : Nat) (p0 : FV) (F : FAW) : u28 C n [p0] F = u28b C n (.mk p0 (.u []) (.u []) (.u []) (.u []) (.u [])) F fun o v F => exU o (u28r v F) (fun _ => .no) (u28r v F) := rfl
theorem u28r_mk (a c d e f g : FV) (S : FAW) : u28r (.mk a c d e f g ) S = .ok c S := rfl
theorem cl28 (n : Nat) (args : List FV) (F : FAW) : clU kindD (n + 1) 28 args F = u28 (clU kindD n) n args F := clU_get (fun k => by kernel_rfl) n args F
theorem u29_in (C : CU) (n : Nat) (p0 : FV) (F : FAW) : u29 C n [p0] F = u29b C n (.mk p0 (.u []) (.u []) (.u []) (.u []) (.u [])) F fun o v F => exU o (u29r v F) (fun _ => .no) (u29r v F) := rfl
theorem u29r_mk (a c d e f g : FV) (S : FAW) : u29r (.mk a c d e f g ) S = .ok c S := rfl
theorem cl29 (n : Nat) (args : List FV) (F : FAW) : clU kindD (n + 1) 29 args F = u29 (clU kindD n) n args F := clU_get (fun k => by kernel_rfl) n args F
theorem u30_in (C : CU) (n : Nat) (p0 p1 p2 p3 : FV) (F : FAW) : u30 C n [p0, p1, p2, p3] F = u30b C n (.mk p0 p1 p2 p3 (.u []) (.u []) (.u []) (.u []) (.u []) (.u []) (.u []) (.u []) (.u []) (.u [])) F fun o v F => exU o (u30r v F) (fun _ => .no) (u30r v F) := rfl
theorem u30r_mk (a c d e f g h i j k l m o p : FV) (S : FAW) : u30r (.mk a c d e f g h i j k l m o p ) S = .ok g S := rfl
theorem cl30 (n : Nat) (args : List FV) (F : FAW) : clU kindD (n + 1) 30 args F = u30 (clU kindD n) n args F := clU_get (fun k => by kernel_rfl) n args F
theorem u67_in (C : CU) (n : Nat) (p0 : FV) (F : FAW) : u67 C n [p0] F = u67b C n (.mk p0 (.u []) (.u []) (.u [])) F fun o v F => exU o (u67r v F) (fun _ => .no) (u67r v F) := rfl
theorem u67r_mk (a c d e : FV) (S : FAW) : u67r (.mk a c d e ) S = .ok (.u [c, d, e]) S := rfl
theorem cl67 (n : Nat) (args : List FV) (F : FAW) : clU kindD (n + 1) 67 args F = u67 (clU kindD n) n args F := clU_get (fun k => by kernel_rfl) n args F
theorem u68_in (C : CU) (n : Nat) (p0 p1 : FV) (F : FAW) : u68 C n [p0, p1] F = u68b C n (.mk p0 p1 (.u [])) F fun o v F => exU o (u68r v F) (fun _ => .no) (u68r v F) := rfl
theorem u68r_mk (a c d : FV) (S : FAW) : u68r (.mk a c d ) S = .ok d S := rfl
theorem cl68 (n : Nat) (args : List FV) (F : FAW) : clU kindD (n + 1) 68 args F = u68 (clU kindD n) n args F := clU_get (fun k => by kernel_rfl) n args F
theorem u69_in (C : CU) (n : Nat) (p0 p1 : FV) (F : FAW) : u69 C n [p0, p1] F = u69b C n (.mk p0 p1 (.u []) (.u []) (.u []) (.u []) (.u []) (.u []) (.u []) (.u []) (.u []) (.u []) (.u []) (.u []) (.u []) (.u []) (.u []) (.u []) (.u [])) F fun o v F => exU o (u69r v F) (fun _ => .no) (u69r v F) := rfl
theorem u69r_mk (a c d e f g h i j k l m o p q r s t w : FV) (S : FAW) : u69r (.mk a c d e f g h i j k l m o p q r s t w ) S = uLd (some 4) d S fun r4 _ => .ok r4 S := rfl
theorem cl69 (n : Nat) (args : List FV) (F : FAW) : clU kindD (n + 1) 69 args F = u69 (clU kindD n) n args F := clU_get (fun k => by kernel_rfl) n args F
theorem u70_in (C : CU) (n : Nat) (p0 p1 : FV) (F : FAW) : u70 C n [p0, p1] F = u70b C n (.mk p0 p1 (.u []) (.u []) (.u []) (.u []) (.u []) (.u [])) F fun o v F => exU o (u70r v F) (fun _ => .no) (u70r v F) := rfl
theorem u70r_mk (a c d e f g h i : FV) (S : FAW) : u70r (.mk a c d e f g h i ) S = .ok d S := rfl
theorem cl70 (n : Nat) (args : List FV) (F : FAW) : clU kindD (n + 1) 70 args F = u70 (clU kindD n) n args F := clU_get (fun k => by kernel_rfl) n args F
theorem u71_in (C : CU) (n : Nat) (p0 p1 : FV) (F : FAW) : u71 C n [p0, p1] F = u71b C n (.mk p0 p1 (.u [])) F fun o v F => exU o (u71r v F) (fun _ => .no) (u71r v F) := rfl
theorem u71r_mk (a c d : FV) (S : FAW) : u71r (.mk a c d ) S = .ok d S := rfl
theorem cl71 (n : Nat) (args : List FV) (F : FAW) : clU kindD (n + 1) 71 args F = u71 (clU kindD n) n args F := clU_get (fun k => by kernel_rfl) n args F
theorem u72_in (C : CU) (n : Nat) (p0 : FV) (F : FAW) : u72 C n [p0] F = u72b C n (.mk p0 (.u []) (.u []) (.u []) (.u []) (.u []) (.u []) (.u []) (.u []) (.u []) (.u []) (.u []) (.u []) (.u [])) F fun o v F => exU o (u72r v F) (fun _ => .no) (u72r v F) := rfl
theorem u72r_mk (a c d e f g h i j k l m o p : FV) (S : FAW) : u72r (.mk a c d e f g h i j k l m o p ) S = .ok c S := rfl
theorem cl72 (n : Nat) (args : List FV) (F : FAW) : clU kindD (n + 1) 72 args F = u72 (clU kindD n) n args F := clU_get (fun k => by kernel_rfl) n args F
theorem u91_in (C : CU) (n : Nat) (p0 p1 : FV) (F : FAW) : u91 C n [p0, p1] F = u91b C n (.mk p0 p1 (.u []) (.u []) (.u []) (.u []) (.u []) (.u []) (.u []) (.u []) (.u []) (.u []) (.u []) (.u [])) F fun o v F => exU o (u91r v F) (fun _ => .no) (u91r v F) := rfl
theorem u91r_mk (a c d e f g h i j k l m o p : FV) (S : FAW) : u91r (.mk a c d e f g h i j k l m o p ) S = .ok (.u [d, e]) S := rfl
theorem cl91 (n : Nat) (args : List FV) (F : FAW) : clU kindD (n + 1) 91 args F = u91 (clU kindD n) n args F := clU_get (fun k => by kernel_rfl) n args F
theorem u92_in (C : CU) (n : Nat) (p0 p1 p2 : FV) (F : FAW) : u92 C n [p0, p1, p2] F = u92b C n (.mk p0 p1 p2 (.u [])) F fun o v F => exU o (u92r v F) (fun _ => .no) (u92r v F) := rfl
theorem u92r_mk (a c d e : FV) (S : FAW) : u92r (.mk a c d e ) S = .ok (.u []) S := rfl
theorem cl92 (n : Nat) (args : List FV) (F : FAW) : clU kindD (n + 1) 92 args F = u92 (clU kindD n) n args F := clU_get (fun k => by kernel_rfl) n args F
theorem u93_in (C : CU) (n : Nat) (p0 p1 : FV) (F : FAW) : u93 C n [p0, p1] F = u93b C n (.mk p0 p1 (.u [])) F fun o v F => exU o (u93r v F) (fun _ => .no) (u93r v F) := rfl
theorem u93r_mk (a c d : FV) (S : FAW) : u93r (.mk a c d ) S = .ok d S := rfl
theorem cl93 (n : Nat) (args : List FV) (F : FAW) : clU kindD (n + 1) 93 args F = u93 (clU kindD n) n args F := clU_get (fun k => by kernel_rfl) n args F
theorem u94_in (C : CU) (n : Nat) (p0 : FV) (F : FAW) : u94 C n [p0] F = u94b C n (.mk p0 (.u [])) F fun o v F => exU o (u94r v F) (fun _ => .no) (u94r v F) := rfl
theorem u94r_mk (a c : FV) (S : FAW) : u94r (.mk a c ) S = .ok c S := rfl
theorem cl94 (n : Nat) (args : List FV) (F : FAW) : clU kindD (n + 1) 94 args F = u94 (clU kindD n) n args F := clU_get (fun k => by kernel_rfl) n args F
theorem u95_in (C : CU) (n : Nat) (p0 : FV) (F : FAW) : u95 C n [p0] F = u95b C n (.mk p0 (.u [])) F fun o v F => exU o (u95r v F) (fun _ => .no) (u95r v F) := rfl
theorem u95r_mk (a c : FV) (S : FAW) : u95r (.mk a c ) S = .ok c S := rfl
theorem cl95 (n : Nat) (args : List FV) (F : FAW) : clU kindD (n + 1) 95 args F = u95 (clU kindD n) n args F := clU_get (fun k => by kernel_rfl) n args F
theorem u96_in (C : CU) (n : Nat) (p0 : FV) (F : FAW) : u96 C n [p0] F = u96b C n (.mk p0 (.u []) (.u []) (.u []) (.u []) (.u [])) F fun o v F => exU o (u96r v F) (fun _ => .no) (u96r v F) := rfl
theorem u96r_mk (a c d e f g : FV) (S : FAW) : u96r (.mk a c d e f g ) S = .ok c S := rfl
theorem cl96 (n : Nat) (args : List FV) (F : FAW) : clU kindD (n + 1) 96 args F = u96 (clU kindD n) n args F := clU_get (fun k => by kernel_rfl) n args F
theorem u97_in (C : CU) (n : Nat) (p0 : FV) (F : FAW) : u97 C n [p0] F = u97b C n (.mk p0 (.u []) (.u []) (.u []) (.u []) (.u []) (.u []) (.u []) (.u []) (.u []) (.u []) (.u []) (.u []) (.u [])) F fun o v F => exU o (u97r v F) (fun _ => .no) (u97r v F) := rfl
theorem u97r_mk (a c d e f g h i j k l m o p : FV) (S : FAW) : u97r (.mk a c d e f g h i j k l m o p ) S = .ok c S := rfl
theorem cl97 (n : Nat) (args : List FV) (F : FAW) : clU kindD (n + 1) 97 args F = u97 (clU kindD n) n args F := clU_get (fun k => by kernel_rfl) n args F
theorem u98_in (C : CU) (n : Nat) (p0 p1 p2 : FV) (F : FAW) : u98 C n [p0, p1, p2] F = u98b C n (.mk p0 p1 p2 (.u []) (.u []) (.u []) (.u [])) F fun o v F => exU o (u98r v F) (fun _ => .no) (u98r v F) := rfl
theorem u98r_mk (a c d e f g h : FV) (S : FAW) : u98r (.mk a c d e f g h ) S = .ok e S := rfl
theorem cl98 (n : Nat) (args : List FV) (F : FAW) : clU kindD (n + 1) 98 args F = u98 (clU kindD n) n args F := clU_get (fun k => by kernel_rfl) n args F
theorem u99_in (C : CU) (n : Nat) (p0 p1 : FV) (F : FAW) : u99 C n [p0, p1] F = u99b C n (.mk p0 p1 (.u [])) F fun o v F => exU o (u99r v F) (fun _ => .no) (u99r v F) := rfl
theorem u99r_mk (a c d : FV) (S : FAW) : u99r (.mk a c d ) S = .ok (.u []) S := rfl
theorem cl99 (n : Nat) (args : List FV) (F : FAW) : clU kindD (n + 1) 99 args F = u99 (clU kindD n) n args F := clU_get (fun k => by kernel_rfl) n args F
theorem u104_in (C : CU) (n : Nat) (p0 : FV) (F : FAW) : u104 C n [p0] F = u104b C n (.mk p0 (.u []) (.u []) (.u [])) F fun o v F => exU o (u104r v F) (fun _ => .no) (u104r v F) := rfl
theorem u104r_mk (a c d e : FV) (S : FAW) : u104r (.mk a c d e ) S = .ok c S := rfl
theorem cl104 (n : Nat) (args : List FV) (F : FAW) : clU kindD (n + 1) 104 args F = u104 (clU kindD n) n args F := clU_get (fun k => by kernel_rfl) n args F
theorem u105_in (C : CU) (n : Nat) (p0 : FV) (F : FAW) : u105 C n [p0] F = u105b C n (.mk p0 (.u []) (.u []) (.u [])) F fun o v F => exU o (u105r v F) (fun _ => .no) (u105r v F) := rfl
theorem u105r_mk (a c d e : FV) (S : FAW) : u105r (.mk a c d e ) S = .ok c S := rfl
theorem cl105 (n : Nat) (args : List FV) (F : FAW) : clU kindD (n + 1) 105 args F = u105 (clU kindD n) n args F := clU_get (fun k => by kernel_rfl) n args F
theorem u106_in (C : CU) (n : Nat) (p0 : FV) (F : FAW) : u106 C n [p0] F = u106b C n (.mk p0 (.u []) (.u []) (.u []) (.u [])) F fun o v F => exU o (u106r v F) (fun _ => .no) (u106r v F) := rfl
theorem u106r_mk (a c d e f : FV) (S : FAW) : u106r (.mk a c d e f ) S = .ok c S := rfl
theorem cl106 (n : Nat) (args : List FV) (F : FAW) : clU kindD (n + 1) 106 args F = u106 (clU kindD n) n args F := clU_get (fun k => by kernel_rfl) n args F
theorem u107_in (C : CU) (n : Nat) (p0 p1 : FV) (F : FAW) : u107 C n [p0, p1] F = u107b C n (.mk p0 p1 (.u [])) F fun o v F => exU o (u107r v F) (fun _ => .no) (u107r v F) := rfl
theorem u107r_mk (a c d : FV) (S : FAW) : u107r (.mk a c d ) S = .ok (.u []) S := rfl
theorem cl107 (n : Nat) (args : List FV) (F : FAW) : clU kindD (n + 1) 107 args F = u107 (clU kindD n) n args F := clU_get (fun k => by kernel_rfl) n args F
theorem u109_in (C : CU) (n : Nat) (p0 : FV) (F : FAW) : u109 C n [p0] F = u109b C n (.mk p0 (.u [])) F fun o v F => exU o (u109r v F) (fun _ => .no) (u109r v F) := rfl
theorem u109r_mk (a c : FV) (S : FAW) : u109r (.mk a c ) S = .ok c S := rfl
theorem cl109 (n : Nat) (args : List FV) (F : FAW) : clU kindD (n + 1) 109 args F = u109 (clU kindD n) n args F := clU_get (fun k => by kernel_rfl) n args F
theorem cl108 (n : Nat) (args : List FV) (F : FAW) : clU kindD (n + 1) 108 args F = u108 (clU kindD n) n args F := clU_get (fun k => by kernel_rfl) n args F
end Go.Proofs.Ytgejdfhfgphcbaa.Ev
