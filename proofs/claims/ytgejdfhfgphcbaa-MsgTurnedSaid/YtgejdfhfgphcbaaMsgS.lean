/- The texts, for reasoning: how each function is entered and left. -/
import Derived.Test.YtgejdfhfgphcbaaMsgY
import Derived.Test.YtgejdfhfgphcbaaEvS
namespace Go.Proofs.Ytgejdfhfgphcbaa.Ev
open Go Go.RowKit
set_option linter.unusedVariables false
set_option linter.constructorNameAsVariable false
noncomputable section
def u3_17t1 (C : CU) (n : Nat) : CdU W19 := seqU (blockU 1 (u3_15 C)) (u3_16 C)
theorem u3_17_s (C : CU) (n : Nat) : u3_17 C n = seqU (seqU (u3_13 C) (condU u3_14 (skipU) (exitU 0))) (u3_17t1 C n) := rfl
theorem u3_17t1_s (C : CU) (n : Nat) : u3_17t1 C n = seqU (blockU 1 (u3_15 C)) (u3_16 C) := rfl
def u3bt9 (C : CU) (n : Nat) : CdU W19 := seqU (u3_20 C) (retU)
def u3bt8 (C : CU) (n : Nat) : CdU W19 := seqU (u3_19 C) (u3bt9 C n)
def u3bt7 (C : CU) (n : Nat) : CdU W19 := seqU (u3_18 C) (u3bt8 C n)
def u3bt6 (C : CU) (n : Nat) : CdU W19 := seqU (seqU (u3_12 C) (blockU 0 (loopU n (u3_17 C n)))) (u3bt7 C n)
def u3bt5 (C : CU) (n : Nat) : CdU W19 := seqU (u3_11 C) (u3bt6 C n)
def u3bt4 (C : CU) (n : Nat) : CdU W19 := seqU (seqU (u3_8 C) (condU u3_9 (u3_10 C) (skipU))) (u3bt5 C n)
def u3bt3 (C : CU) (n : Nat) : CdU W19 := seqU (u3_7 C) (u3bt4 C n)
def u3bt2 (C : CU) (n : Nat) : CdU W19 := seqU (seqU (u3_4 C) (condU u3_5 (seqU (u3_6 C) (retU)) (skipU))) (u3bt3 C n)
def u3bt1 (C : CU) (n : Nat) : CdU W19 := seqU (seqU (u3_1 C) (condU u3_2 (seqU (u3_3 C) (retU)) (skipU))) (u3bt2 C n)
theorem u3b_s (C : CU) (n : Nat) : u3b C n = seqU (u3_0 C) (u3bt1 C n) := rfl
theorem u3bt1_s (C : CU) (n : Nat) : u3bt1 C n = seqU (seqU (u3_1 C) (condU u3_2 (seqU (u3_3 C) (retU)) (skipU))) (u3bt2 C n) := rfl
theorem u3bt2_s (C : CU) (n : Nat) : u3bt2 C n = seqU (seqU (u3_4 C) (condU u3_5 (seqU (u3_6 C) (retU)) (skipU))) (u3bt3 C n) := rfl
theorem u3bt3_s (C : CU) (n : Nat) : u3bt3 C n = seqU (u3_7 C) (u3bt4 C n) := rfl
theorem u3bt4_s (C : CU) (n : Nat) : u3bt4 C n = seqU (seqU (u3_8 C) (condU u3_9 (u3_10 C) (skipU))) (u3bt5 C n) := rfl
theorem u3bt5_s (C : CU) (n : Nat) : u3bt5 C n = seqU (u3_11 C) (u3bt6 C n) := rfl
theorem u3bt6_s (C : CU) (n : Nat) : u3bt6 C n = seqU (seqU (u3_12 C) (blockU 0 (loopU n (u3_17 C n)))) (u3bt7 C n) := rfl
theorem u3bt7_s (C : CU) (n : Nat) : u3bt7 C n = seqU (u3_18 C) (u3bt8 C n) := rfl
theorem u3bt8_s (C : CU) (n : Nat) : u3bt8 C n = seqU (u3_19 C) (u3bt9 C n) := rfl
theorem u3bt9_s (C : CU) (n : Nat) : u3bt9 C n = seqU (u3_20 C) (retU) := rfl
def u4bt8 (C : CU) (n : Nat) : CdU W16 := seqU (u4_14 C) (retU)
def u4bt7 (C : CU) (n : Nat) : CdU W16 := seqU (u4_13 C) (u4bt8 C n)
def u4bt6 (C : CU) (n : Nat) : CdU W16 := seqU (u4_12 C) (u4bt7 C n)
def u4bt5 (C : CU) (n : Nat) : CdU W16 := seqU (u4_11 C) (u4bt6 C n)
def u4bt4 (C : CU) (n : Nat) : CdU W16 := seqU (seqU (u4_8 C) (condU u4_9 (u4_10 C) (skipU))) (u4bt5 C n)
def u4bt3 (C : CU) (n : Nat) : CdU W16 := seqU (u4_7 C) (u4bt4 C n)
def u4bt2 (C : CU) (n : Nat) : CdU W16 := seqU (seqU (u4_4 C) (condU u4_5 (seqU (u4_6 C) (retU)) (skipU))) (u4bt3 C n)
def u4bt1 (C : CU) (n : Nat) : CdU W16 := seqU (seqU (u4_1 C) (condU u4_2 (seqU (u4_3 C) (retU)) (skipU))) (u4bt2 C n)
theorem u4b_s (C : CU) (n : Nat) : u4b C n = seqU (u4_0 C) (u4bt1 C n) := rfl
theorem u4bt1_s (C : CU) (n : Nat) : u4bt1 C n = seqU (seqU (u4_1 C) (condU u4_2 (seqU (u4_3 C) (retU)) (skipU))) (u4bt2 C n) := rfl
theorem u4bt2_s (C : CU) (n : Nat) : u4bt2 C n = seqU (seqU (u4_4 C) (condU u4_5 (seqU (u4_6 C) (retU)) (skipU))) (u4bt3 C n) := rfl
theorem u4bt3_s (C : CU) (n : Nat) : u4bt3 C n = seqU (u4_7 C) (u4bt4 C n) := rfl
theorem u4bt4_s (C : CU) (n : Nat) : u4bt4 C n = seqU (seqU (u4_8 C) (condU u4_9 (u4_10 C) (skipU))) (u4bt5 C n) := rfl
theorem u4bt5_s (C : CU) (n : Nat) : u4bt5 C n = seqU (u4_11 C) (u4bt6 C n) := rfl
theorem u4bt6_s (C : CU) (n : Nat) : u4bt6 C n = seqU (u4_12 C) (u4bt7 C n) := rfl
theorem u4bt7_s (C : CU) (n : Nat) : u4bt7 C n = seqU (u4_13 C) (u4bt8 C n) := rfl
theorem u4bt8_s (C : CU) (n : Nat) : u4bt8 C n = seqU (u4_14 C) (retU) := rfl
def u14bt3 (C : CU) (n : Nat) : CdU W5 := seqU (u14_3 C) (retU)
def u14bt2 (C : CU) (n : Nat) : CdU W5 := seqU (u14_2 C) (u14bt3 C n)
def u14bt1 (C : CU) (n : Nat) : CdU W5 := seqU (u14_1 C) (u14bt2 C n)
theorem u14b_s (C : CU) (n : Nat) : u14b C n = seqU (u14_0 C) (u14bt1 C n) := rfl
theorem u14bt1_s (C : CU) (n : Nat) : u14bt1 C n = seqU (u14_1 C) (u14bt2 C n) := rfl
theorem u14bt2_s (C : CU) (n : Nat) : u14bt2 C n = seqU (u14_2 C) (u14bt3 C n) := rfl
theorem u14bt3_s (C : CU) (n : Nat) : u14bt3 C n = seqU (u14_3 C) (retU) := rfl
def u15bt3 (C : CU) (n : Nat) : CdU W11 := seqU (u15_16 C) (retU)
def u15bt2 (C : CU) (n : Nat) : CdU W11 := seqU (blockU 0 (seqU (u15_4 C) (condU u15_5 (seqU (u15_6 C) (seqU (u15_7 C) (retU))) (seqU (u15_8 C) (condU u15_9 (seqU (u15_10 C) (seqU (u15_11 C) (retU))) (seqU (u15_12 C) (condU u15_13 (seqU (u15_14 C) (seqU (u15_15 C) (retU))) (skipU)))))))) (u15bt3 C n)
def u15bt1 (C : CU) (n : Nat) : CdU W11 := seqU (seqU (u15_1 C) (condU u15_2 (seqU (u15_3 C) (retU)) (skipU))) (u15bt2 C n)
theorem u15b_s (C : CU) (n : Nat) : u15b C n = seqU (u15_0 C) (u15bt1 C n) := rfl
theorem u15bt1_s (C : CU) (n : Nat) : u15bt1 C n = seqU (seqU (u15_1 C) (condU u15_2 (seqU (u15_3 C) (retU)) (skipU))) (u15bt2 C n) := rfl
theorem u15bt2_s (C : CU) (n : Nat) : u15bt2 C n = seqU (blockU 0 (seqU (u15_4 C) (condU u15_5 (seqU (u15_6 C) (seqU (u15_7 C) (retU))) (seqU (u15_8 C) (condU u15_9 (seqU (u15_10 C) (seqU (u15_11 C) (retU))) (seqU (u15_12 C) (condU u15_13 (seqU (u15_14 C) (seqU (u15_15 C) (retU))) (skipU)))))))) (u15bt3 C n) := rfl
theorem u15bt3_s (C : CU) (n : Nat) : u15bt3 C n = seqU (u15_16 C) (retU) := rfl
def u16bt4 (C : CU) (n : Nat) : CdU W10 := seqU (u16_13 C) (retU)
def u16bt3 (C : CU) (n : Nat) : CdU W10 := seqU (seqU (u16_10 C) (condU u16_11 (seqU (u16_12 C) (retU)) (skipU))) (u16bt4 C n)
def u16bt2 (C : CU) (n : Nat) : CdU W10 := seqU (seqU (u16_2 C) (blockU 0 (seqU (u16_3 C) (condU u16_4 (u16_5 C) (seqU (u16_6 C) (condU u16_7 (u16_8 C) (u16_9 C))))))) (u16bt3 C n)
def u16bt1 (C : CU) (n : Nat) : CdU W10 := seqU (u16_1 C) (u16bt2 C n)
theorem u16b_s (C : CU) (n : Nat) : u16b C n = seqU (u16_0 C) (u16bt1 C n) := rfl
theorem u16bt1_s (C : CU) (n : Nat) : u16bt1 C n = seqU (u16_1 C) (u16bt2 C n) := rfl
theorem u16bt2_s (C : CU) (n : Nat) : u16bt2 C n = seqU (seqU (u16_2 C) (blockU 0 (seqU (u16_3 C) (condU u16_4 (u16_5 C) (seqU (u16_6 C) (condU u16_7 (u16_8 C) (u16_9 C))))))) (u16bt3 C n) := rfl
theorem u16bt3_s (C : CU) (n : Nat) : u16bt3 C n = seqU (seqU (u16_10 C) (condU u16_11 (seqU (u16_12 C) (retU)) (skipU))) (u16bt4 C n) := rfl
theorem u16bt4_s (C : CU) (n : Nat) : u16bt4 C n = seqU (u16_13 C) (retU) := rfl
def u17bt6 (C : CU) (n : Nat) : CdU W13 := seqU (u17_34 C) (retU)
def u17bt5 (C : CU) (n : Nat) : CdU W13 := seqU (seqU (u17_31 C) (condU u17_32 (seqU (u17_33 C) (retU)) (skipU))) (u17bt6 C n)
def u17bt4 (C : CU) (n : Nat) : CdU W13 := seqU (seqU (u17_6 C) (condU u17_7 (seqU (u17_8 C) (seqU (u17_9 C) (seqU (seqU (u17_10 C) (condU u17_11 (u17_12 C) (skipU))) (seqU (u17_13 C) (seqU (u17_14 C) (seqU (u17_15 C) (u17_16 C))))))) (seqU (u17_17 C) (condU u17_18 (seqU (u17_19 C) (seqU (u17_20 C) (seqU (u17_21 C) (seqU (u17_22 C) (u17_23 C))))) (seqU (u17_24 C) (seqU (u17_25 C) (seqU (u17_26 C) (seqU (u17_27 C) (seqU (u17_28 C) (seqU (u17_29 C) (u17_30 C))))))))))) (u17bt5 C n)
def u17bt3 (C : CU) (n : Nat) : CdU W13 := seqU (u17_5 C) (u17bt4 C n)
def u17bt2 (C : CU) (n : Nat) : CdU W13 := seqU (u17_4 C) (u17bt3 C n)
def u17bt1 (C : CU) (n : Nat) : CdU W13 := seqU (seqU (u17_1 C) (condU u17_2 (seqU (u17_3 C) (retU)) (skipU))) (u17bt2 C n)
theorem u17b_s (C : CU) (n : Nat) : u17b C n = seqU (u17_0 C) (u17bt1 C n) := rfl
theorem u17bt1_s (C : CU) (n : Nat) : u17bt1 C n = seqU (seqU (u17_1 C) (condU u17_2 (seqU (u17_3 C) (retU)) (skipU))) (u17bt2 C n) := rfl
theorem u17bt2_s (C : CU) (n : Nat) : u17bt2 C n = seqU (u17_4 C) (u17bt3 C n) := rfl
theorem u17bt3_s (C : CU) (n : Nat) : u17bt3 C n = seqU (u17_5 C) (u17bt4 C n) := rfl
theorem u17bt4_s (C : CU) (n : Nat) : u17bt4 C n = seqU (seqU (u17_6 C) (condU u17_7 (seqU (u17_8 C) (seqU (u17_9 C) (seqU (seqU (u17_10 C) (condU u17_11 (u17_12 C) (skipU))) (seqU (u17_13 C) (seqU (u17_14 C) (seqU (u17_15 C) (u17_16 C))))))) (seqU (u17_17 C) (condU u17_18 (seqU (u17_19 C) (seqU (u17_20 C) (seqU (u17_21 C) (seqU (u17_22 C) (u17_23 C))))) (seqU (u17_24 C) (seqU (u17_25 C) (seqU (u17_26 C) (seqU (u17_27 C) (seqU (u17_28 C) (seqU (u17_29 C) (u17_30 C))))))))))) (u17bt5 C n) := rfl
theorem u17bt5_s (C : CU) (n : Nat) : u17bt5 C n = seqU (seqU (u17_31 C) (condU u17_32 (seqU (u17_33 C) (retU)) (skipU))) (u17bt6 C n) := rfl
theorem u17bt6_s (C : CU) (n : Nat) : u17bt6 C n = seqU (u17_34 C) (retU) := rfl
def u18bt3 (C : CU) (n : Nat) : CdU W10 := seqU (u18_15 C) (retU)
def u18bt2 (C : CU) (n : Nat) : CdU W10 := seqU (blockU 0 (seqU (u18_2 C) (condU u18_3 (seqU (u18_4 C) (retU)) (seqU (u18_5 C) (condU u18_6 (seqU (u18_7 C) (retU)) (seqU (u18_8 C) (condU u18_9 (seqU (u18_10 C) (retU)) (seqU (u18_11 C) (condU u18_12 (seqU (u18_13 C) (seqU (u18_14 C) (retU))) (skipU)))))))))) (u18bt3 C n)
def u18bt1 (C : CU) (n : Nat) : CdU W10 := seqU (u18_1 C) (u18bt2 C n)
theorem u18b_s (C : CU) (n : Nat) : u18b C n = seqU (u18_0 C) (u18bt1 C n) := rfl
theorem u18bt1_s (C : CU) (n : Nat) : u18bt1 C n = seqU (u18_1 C) (u18bt2 C n) := rfl
theorem u18bt2_s (C : CU) (n : Nat) : u18bt2 C n = seqU (blockU 0 (seqU (u18_2 C) (condU u18_3 (seqU (u18_4 C) (retU)) (seqU (u18_5 C) (condU u18_6 (seqU (u18_7 C) (retU)) (seqU (u18_8 C) (condU u18_9 (seqU (u18_10 C) (retU)) (seqU (u18_11 C) (condU u18_12 (seqU (u18_13 C) (seqU (u18_14 C) (retU))) (skipU)))))))))) (u18bt3 C n) := rfl
theorem u18bt3_s (C : CU) (n : Nat) : u18bt3 C n = seqU (u18_15 C) (retU) := rfl
def u19bt2 (C : CU) (n : Nat) : CdU W4 := seqU (u19_4 C) (retU)
def u19bt1 (C : CU) (n : Nat) : CdU W4 := seqU (seqU (u19_1 C) (condU u19_2 (seqU (u19_3 C) (retU)) (skipU))) (u19bt2 C n)
theorem u19b_s (C : CU) (n : Nat) : u19b C n = seqU (u19_0 C) (u19bt1 C n) := rfl
theorem u19bt1_s (C : CU) (n : Nat) : u19bt1 C n = seqU (seqU (u19_1 C) (condU u19_2 (seqU (u19_3 C) (retU)) (skipU))) (u19bt2 C n) := rfl
theorem u19bt2_s (C : CU) (n : Nat) : u19bt2 C n = seqU (u19_4 C) (retU) := rfl
def u52bt1 (C : CU) (n : Nat) : CdU W3 := seqU (u52_1 C) (retU)
theorem u52b_s (C : CU) (n : Nat) : u52b C n = seqU (u52_0 C) (u52bt1 C n) := rfl
theorem u52bt1_s (C : CU) (n : Nat) : u52bt1 C n = seqU (u52_1 C) (retU) := rfl
def u53_13t1 (C : CU) (n : Nat) : CdU W9 := seqU (blockU 1 (seqU (u53_10 C) (u53_11 C))) (u53_12 C)
theorem u53_13_s (C : CU) (n : Nat) : u53_13 C n = seqU (seqU (u53_8 C) (condU u53_9 (skipU) (exitU 0))) (u53_13t1 C n) := rfl
theorem u53_13t1_s (C : CU) (n : Nat) : u53_13t1 C n = seqU (blockU 1 (seqU (u53_10 C) (u53_11 C))) (u53_12 C) := rfl
def u53bt6 (C : CU) (n : Nat) : CdU W9 := seqU (u53_14 C) (retU)
def u53bt5 (C : CU) (n : Nat) : CdU W9 := seqU (seqU (u53_7 C) (blockU 0 (loopU n (u53_13 C n)))) (u53bt6 C n)
def u53bt4 (C : CU) (n : Nat) : CdU W9 := seqU (u53_6 C) (u53bt5 C n)
def u53bt3 (C : CU) (n : Nat) : CdU W9 := seqU (u53_5 C) (u53bt4 C n)
def u53bt2 (C : CU) (n : Nat) : CdU W9 := seqU (seqU (u53_2 C) (condU u53_3 (seqU (u53_4 C) (retU)) (skipU))) (u53bt3 C n)
def u53bt1 (C : CU) (n : Nat) : CdU W9 := seqU (u53_1 C) (u53bt2 C n)
theorem u53b_s (C : CU) (n : Nat) : u53b C n = seqU (u53_0 C) (u53bt1 C n) := rfl
theorem u53bt1_s (C : CU) (n : Nat) : u53bt1 C n = seqU (u53_1 C) (u53bt2 C n) := rfl
theorem u53bt2_s (C : CU) (n : Nat) : u53bt2 C n = seqU (seqU (u53_2 C) (condU u53_3 (seqU (u53_4 C) (retU)) (skipU))) (u53bt3 C n) := rfl
theorem u53bt3_s (C : CU) (n : Nat) : u53bt3 C n = seqU (u53_5 C) (u53bt4 C n) := rfl
theorem u53bt4_s (C : CU) (n : Nat) : u53bt4 C n = seqU (u53_6 C) (u53bt5 C n) := rfl
theorem u53bt5_s (C : CU) (n : Nat) : u53bt5 C n = seqU (seqU (u53_7 C) (blockU 0 (loopU n (u53_13 C n)))) (u53bt6 C n) := rfl
theorem u53bt6_s (C : CU) (n : Nat) : u53bt6 C n = seqU (u53_14 C) (retU) := rfl
def u54bt3 (C : CU) (n : Nat) : CdU W5 := seqU (u54_7 C) (retU)
def u54bt2 (C : CU) (n : Nat) : CdU W5 := seqU (blockU 0 (loopU n (u54_6 C n))) (u54bt3 C n)
def u54bt1 (C : CU) (n : Nat) : CdU W5 := seqU (u54_1 C) (u54bt2 C n)
theorem u54b_s (C : CU) (n : Nat) : u54b C n = seqU (u54_0 C) (u54bt1 C n) := rfl
theorem u54bt1_s (C : CU) (n : Nat) : u54bt1 C n = seqU (u54_1 C) (u54bt2 C n) := rfl
theorem u54bt2_s (C : CU) (n : Nat) : u54bt2 C n = seqU (blockU 0 (loopU n (u54_6 C n))) (u54bt3 C n) := rfl
theorem u54bt3_s (C : CU) (n : Nat) : u54bt3 C n = seqU (u54_7 C) (retU) := rfl
def u56bt4 (C : CU) (n : Nat) : CdU W2 := seqU (u56_4 C) (u56_5 C)
def u56bt3 (C : CU) (n : Nat) : CdU W2 := seqU (u56_3 C) (u56bt4 C n)
def u56bt2 (C : CU) (n : Nat) : CdU W2 := seqU (u56_2 C) (u56bt3 C n)
def u56bt1 (C : CU) (n : Nat) : CdU W2 := seqU (u56_1 C) (u56bt2 C n)
theorem u56b_s (C : CU) (n : Nat) : u56b C n = seqU (u56_0 C) (u56bt1 C n) := rfl
theorem u56bt1_s (C : CU) (n : Nat) : u56bt1 C n = seqU (u56_1 C) (u56bt2 C n) := rfl
theorem u56bt2_s (C : CU) (n : Nat) : u56bt2 C n = seqU (u56_2 C) (u56bt3 C n) := rfl
theorem u56bt3_s (C : CU) (n : Nat) : u56bt3 C n = seqU (u56_3 C) (u56bt4 C n) := rfl
theorem u56bt4_s (C : CU) (n : Nat) : u56bt4 C n = seqU (u56_4 C) (u56_5 C) := rfl
def u59bt4 (C : CU) (n : Nat) : CdU W6 := seqU (u59_6 C) (retU)
def u59bt3 (C : CU) (n : Nat) : CdU W6 := seqU (u59_5 C) (u59bt4 C n)
def u59bt2 (C : CU) (n : Nat) : CdU W6 := seqU (seqU (u59_2 C) (condU u59_3 (seqU (u59_4 C) (retU)) (skipU))) (u59bt3 C n)
def u59bt1 (C : CU) (n : Nat) : CdU W6 := seqU (u59_1 C) (u59bt2 C n)
theorem u59b_s (C : CU) (n : Nat) : u59b C n = seqU (u59_0 C) (u59bt1 C n) := rfl
theorem u59bt1_s (C : CU) (n : Nat) : u59bt1 C n = seqU (u59_1 C) (u59bt2 C n) := rfl
theorem u59bt2_s (C : CU) (n : Nat) : u59bt2 C n = seqU (seqU (u59_2 C) (condU u59_3 (seqU (u59_4 C) (retU)) (skipU))) (u59bt3 C n) := rfl
theorem u59bt3_s (C : CU) (n : Nat) : u59bt3 C n = seqU (u59_5 C) (u59bt4 C n) := rfl
theorem u59bt4_s (C : CU) (n : Nat) : u59bt4 C n = seqU (u59_6 C) (retU) := rfl
def u61bt1 (C : CU) (n : Nat) : CdU W10 := seqU (u61_1 C) (blockU 0 (loopU n (u61_15 C n)))
theorem u61b_s (C : CU) (n : Nat) : u61b C n = seqU (u61_0 C) (u61bt1 C n) := rfl
theorem u61bt1_s (C : CU) (n : Nat) : u61bt1 C n = seqU (u61_1 C) (blockU 0 (loopU n (u61_15 C n))) := rfl
def u62bt2 (C : CU) (n : Nat) : CdU W4 := seqU (u62_4 C) (retU)
def u62bt1 (C : CU) (n : Nat) : CdU W4 := seqU (seqU (u62_1 C) (condU u62_2 (u62_3 C) (skipU))) (u62bt2 C n)
theorem u62b_s (C : CU) (n : Nat) : u62b C n = seqU (u62_0 C) (u62bt1 C n) := rfl
theorem u62bt1_s (C : CU) (n : Nat) : u62bt1 C n = seqU (seqU (u62_1 C) (condU u62_2 (u62_3 C) (skipU))) (u62bt2 C n) := rfl
theorem u62bt2_s (C : CU) (n : Nat) : u62bt2 C n = seqU (u62_4 C) (retU) := rfl
def u63bt1 (C : CU) (n : Nat) : CdU W2 := seqU (u63_1 C) (retU)
theorem u63b_s (C : CU) (n : Nat) : u63b C n = seqU (u63_0 C) (u63bt1 C n) := rfl
theorem u63bt1_s (C : CU) (n : Nat) : u63bt1 C n = seqU (u63_1 C) (retU) := rfl
def u64_12t1 (C : CU) (n : Nat) : CdU W8 := seqU (blockU 1 (seqU (u64_9 C) (u64_10 C))) (u64_11 C)
theorem u64_12_s (C : CU) (n : Nat) : u64_12 C n = seqU (seqU (u64_7 C) (condU u64_8 (skipU) (exitU 0))) (u64_12t1 C n) := rfl
theorem u64_12t1_s (C : CU) (n : Nat) : u64_12t1 C n = seqU (blockU 1 (seqU (u64_9 C) (u64_10 C))) (u64_11 C) := rfl
def u64bt5 (C : CU) (n : Nat) : CdU W8 := seqU (u64_13 C) (retU)
def u64bt4 (C : CU) (n : Nat) : CdU W8 := seqU (seqU (u64_6 C) (blockU 0 (loopU n (u64_12 C n)))) (u64bt5 C n)
def u64bt3 (C : CU) (n : Nat) : CdU W8 := seqU (u64_5 C) (u64bt4 C n)
def u64bt2 (C : CU) (n : Nat) : CdU W8 := seqU (u64_4 C) (u64bt3 C n)
def u64bt1 (C : CU) (n : Nat) : CdU W8 := seqU (seqU (u64_1 C) (condU u64_2 (u64_3 C) (skipU))) (u64bt2 C n)
theorem u64b_s (C : CU) (n : Nat) : u64b C n = seqU (u64_0 C) (u64bt1 C n) := rfl
theorem u64bt1_s (C : CU) (n : Nat) : u64bt1 C n = seqU (seqU (u64_1 C) (condU u64_2 (u64_3 C) (skipU))) (u64bt2 C n) := rfl
theorem u64bt2_s (C : CU) (n : Nat) : u64bt2 C n = seqU (u64_4 C) (u64bt3 C n) := rfl
theorem u64bt3_s (C : CU) (n : Nat) : u64bt3 C n = seqU (u64_5 C) (u64bt4 C n) := rfl
theorem u64bt4_s (C : CU) (n : Nat) : u64bt4 C n = seqU (seqU (u64_6 C) (blockU 0 (loopU n (u64_12 C n)))) (u64bt5 C n) := rfl
theorem u64bt5_s (C : CU) (n : Nat) : u64bt5 C n = seqU (u64_13 C) (retU) := rfl
def u65bt1 (C : CU) (n : Nat) : CdU W3 := seqU (u65_1 C) (retU)
theorem u65b_s (C : CU) (n : Nat) : u65b C n = seqU (u65_0 C) (u65bt1 C n) := rfl
theorem u65bt1_s (C : CU) (n : Nat) : u65bt1 C n = seqU (u65_1 C) (retU) := rfl
def u66bt3 (C : CU) (n : Nat) : CdU W5 := seqU (u66_7 C) (retU)
def u66bt2 (C : CU) (n : Nat) : CdU W5 := seqU (blockU 0 (loopU n (u66_6 C n))) (u66bt3 C n)
def u66bt1 (C : CU) (n : Nat) : CdU W5 := seqU (u66_1 C) (u66bt2 C n)
theorem u66b_s (C : CU) (n : Nat) : u66b C n = seqU (u66_0 C) (u66bt1 C n) := rfl
theorem u66bt1_s (C : CU) (n : Nat) : u66bt1 C n = seqU (u66_1 C) (u66bt2 C n) := rfl
theorem u66bt2_s (C : CU) (n : Nat) : u66bt2 C n = seqU (blockU 0 (loopU n (u66_6 C n))) (u66bt3 C n) := rfl
theorem u66bt3_s (C : CU) (n : Nat) : u66bt3 C n = seqU (u66_7 C) (retU) := rfl
def u80bt2 (C : CU) (n : Nat) : CdU W3 := seqU (u80_2 C) (retU)
def u80bt1 (C : CU) (n : Nat) : CdU W3 := seqU (u80_1 C) (u80bt2 C n)
theorem u80b_s (C : CU) (n : Nat) : u80b C n = seqU (u80_0 C) (u80bt1 C n) := rfl
theorem u80bt1_s (C : CU) (n : Nat) : u80bt1 C n = seqU (u80_1 C) (u80bt2 C n) := rfl
theorem u80bt2_s (C : CU) (n : Nat) : u80bt2 C n = seqU (u80_2 C) (retU) := rfl
def u81bt2 (C : CU) (n : Nat) : CdU W3 := seqU (u81_2 C) (retU)
def u81bt1 (C : CU) (n : Nat) : CdU W3 := seqU (u81_1 C) (u81bt2 C n)
theorem u81b_s (C : CU) (n : Nat) : u81b C n = seqU (u81_0 C) (u81bt1 C n) := rfl
theorem u81bt1_s (C : CU) (n : Nat) : u81bt1 C n = seqU (u81_1 C) (u81bt2 C n) := rfl
theorem u81bt2_s (C : CU) (n : Nat) : u81bt2 C n = seqU (u81_2 C) (retU) := rfl
def u82bt2 (C : CU) (n : Nat) : CdU W3 := seqU (u82_2 C) (retU)
def u82bt1 (C : CU) (n : Nat) : CdU W3 := seqU (u82_1 C) (u82bt2 C n)
theorem u82b_s (C : CU) (n : Nat) : u82b C n = seqU (u82_0 C) (u82bt1 C n) := rfl
theorem u82bt1_s (C : CU) (n : Nat) : u82bt1 C n = seqU (u82_1 C) (u82bt2 C n) := rfl
theorem u82bt2_s (C : CU) (n : Nat) : u82bt2 C n = seqU (u82_2 C) (retU) := rfl
def u83bt3 (C : CU) (n : Nat) : CdU W4 := seqU (u83_5 C) (retU)
def u83bt2 (C : CU) (n : Nat) : CdU W4 := seqU (seqU (u83_2 C) (condU u83_3 (seqU (u83_4 C) (retU)) (skipU))) (u83bt3 C n)
def u83bt1 (C : CU) (n : Nat) : CdU W4 := seqU (u83_1 C) (u83bt2 C n)
theorem u83b_s (C : CU) (n : Nat) : u83b C n = seqU (u83_0 C) (u83bt1 C n) := rfl
theorem u83bt1_s (C : CU) (n : Nat) : u83bt1 C n = seqU (u83_1 C) (u83bt2 C n) := rfl
theorem u83bt2_s (C : CU) (n : Nat) : u83bt2 C n = seqU (seqU (u83_2 C) (condU u83_3 (seqU (u83_4 C) (retU)) (skipU))) (u83bt3 C n) := rfl
theorem u83bt3_s (C : CU) (n : Nat) : u83bt3 C n = seqU (u83_5 C) (retU) := rfl
def u85bt6 (C : CU) (n : Nat) : CdU W6 := seqU (u85_8 C) (retU)
def u85bt5 (C : CU) (n : Nat) : CdU W6 := seqU (u85_7 C) (u85bt6 C n)
def u85bt4 (C : CU) (n : Nat) : CdU W6 := seqU (u85_6 C) (u85bt5 C n)
def u85bt3 (C : CU) (n : Nat) : CdU W6 := seqU (u85_5 C) (u85bt4 C n)
def u85bt2 (C : CU) (n : Nat) : CdU W6 := seqU (u85_4 C) (u85bt3 C n)
def u85bt1 (C : CU) (n : Nat) : CdU W6 := seqU (seqU (u85_1 C) (condU u85_2 (seqU (u85_3 C) (retU)) (skipU))) (u85bt2 C n)
theorem u85b_s (C : CU) (n : Nat) : u85b C n = seqU (u85_0 C) (u85bt1 C n) := rfl
theorem u85bt1_s (C : CU) (n : Nat) : u85bt1 C n = seqU (seqU (u85_1 C) (condU u85_2 (seqU (u85_3 C) (retU)) (skipU))) (u85bt2 C n) := rfl
theorem u85bt2_s (C : CU) (n : Nat) : u85bt2 C n = seqU (u85_4 C) (u85bt3 C n) := rfl
theorem u85bt3_s (C : CU) (n : Nat) : u85bt3 C n = seqU (u85_5 C) (u85bt4 C n) := rfl
theorem u85bt4_s (C : CU) (n : Nat) : u85bt4 C n = seqU (u85_6 C) (u85bt5 C n) := rfl
theorem u85bt5_s (C : CU) (n : Nat) : u85bt5 C n = seqU (u85_7 C) (u85bt6 C n) := rfl
theorem u85bt6_s (C : CU) (n : Nat) : u85bt6 C n = seqU (u85_8 C) (retU) := rfl
def u87bt6 (C : CU) (n : Nat) : CdU W7 := seqU (u87_14 C) (retU)
def u87bt5 (C : CU) (n : Nat) : CdU W7 := seqU (u87_13 C) (u87bt6 C n)
def u87bt4 (C : CU) (n : Nat) : CdU W7 := seqU (u87_12 C) (u87bt5 C n)
def u87bt3 (C : CU) (n : Nat) : CdU W7 := seqU (seqU (u87_8 C) (condU u87_9 (seqU (u87_10 C) (seqU (u87_11 C) (retU))) (skipU))) (u87bt4 C n)
def u87bt2 (C : CU) (n : Nat) : CdU W7 := seqU (seqU (u87_4 C) (condU u87_5 (seqU (u87_6 C) (seqU (u87_7 C) (retU))) (skipU))) (u87bt3 C n)
def u87bt1 (C : CU) (n : Nat) : CdU W7 := seqU (seqU (u87_1 C) (condU u87_2 (seqU (u87_3 C) (retU)) (skipU))) (u87bt2 C n)
theorem u87b_s (C : CU) (n : Nat) : u87b C n = seqU (u87_0 C) (u87bt1 C n) := rfl
theorem u87bt1_s (C : CU) (n : Nat) : u87bt1 C n = seqU (seqU (u87_1 C) (condU u87_2 (seqU (u87_3 C) (retU)) (skipU))) (u87bt2 C n) := rfl
theorem u87bt2_s (C : CU) (n : Nat) : u87bt2 C n = seqU (seqU (u87_4 C) (condU u87_5 (seqU (u87_6 C) (seqU (u87_7 C) (retU))) (skipU))) (u87bt3 C n) := rfl
theorem u87bt3_s (C : CU) (n : Nat) : u87bt3 C n = seqU (seqU (u87_8 C) (condU u87_9 (seqU (u87_10 C) (seqU (u87_11 C) (retU))) (skipU))) (u87bt4 C n) := rfl
theorem u87bt4_s (C : CU) (n : Nat) : u87bt4 C n = seqU (u87_12 C) (u87bt5 C n) := rfl
theorem u87bt5_s (C : CU) (n : Nat) : u87bt5 C n = seqU (u87_13 C) (u87bt6 C n) := rfl
theorem u87bt6_s (C : CU) (n : Nat) : u87bt6 C n = seqU (u87_14 C) (retU) := rfl
def u88_13t1 (C : CU) (n : Nat) : CdU W9 := seqU (blockU 2 (u88_11 C)) (u88_12 C)
theorem u88_13_s (C : CU) (n : Nat) : u88_13 C n = seqU (seqU (u88_9 C) (condU u88_10 (skipU) (exitU 1))) (u88_13t1 C n) := rfl
theorem u88_13t1_s (C : CU) (n : Nat) : u88_13t1 C n = seqU (blockU 2 (u88_11 C)) (u88_12 C) := rfl
def u88bt4 (C : CU) (n : Nat) : CdU W9 := seqU (u88_14 C) (retU)
def u88bt3 (C : CU) (n : Nat) : CdU W9 := seqU (seqU (u88_8 C) (blockU 1 (loopU n (u88_13 C n)))) (u88bt4 C n)
def u88bt2 (C : CU) (n : Nat) : CdU W9 := seqU (u88_7 C) (u88bt3 C n)
def u88bt1 (C : CU) (n : Nat) : CdU W9 := seqU (blockU 0 (seqU (u88_1 C) (condU u88_2 (seqU (u88_3 C) (retU)) (seqU (u88_4 C) (condU u88_5 (seqU (u88_6 C) (retU)) (skipU)))))) (u88bt2 C n)
theorem u88b_s (C : CU) (n : Nat) : u88b C n = seqU (u88_0 C) (u88bt1 C n) := rfl
theorem u88bt1_s (C : CU) (n : Nat) : u88bt1 C n = seqU (blockU 0 (seqU (u88_1 C) (condU u88_2 (seqU (u88_3 C) (retU)) (seqU (u88_4 C) (condU u88_5 (seqU (u88_6 C) (retU)) (skipU)))))) (u88bt2 C n) := rfl
theorem u88bt2_s (C : CU) (n : Nat) : u88bt2 C n = seqU (u88_7 C) (u88bt3 C n) := rfl
theorem u88bt3_s (C : CU) (n : Nat) : u88bt3 C n = seqU (seqU (u88_8 C) (blockU 1 (loopU n (u88_13 C n)))) (u88bt4 C n) := rfl
theorem u88bt4_s (C : CU) (n : Nat) : u88bt4 C n = seqU (u88_14 C) (retU) := rfl
def u89bt3 (C : CU) (n : Nat) : CdU W14 := seqU (u89_5 C) (blockU 0 (loopU n (u89_22 C n)))
def u89bt2 (C : CU) (n : Nat) : CdU W14 := seqU (u89_4 C) (u89bt3 C n)
def u89bt1 (C : CU) (n : Nat) : CdU W14 := seqU (seqU (u89_1 C) (condU u89_2 (seqU (u89_3 C) (retU)) (skipU))) (u89bt2 C n)
theorem u89b_s (C : CU) (n : Nat) : u89b C n = seqU (u89_0 C) (u89bt1 C n) := rfl
theorem u89bt1_s (C : CU) (n : Nat) : u89bt1 C n = seqU (seqU (u89_1 C) (condU u89_2 (seqU (u89_3 C) (retU)) (skipU))) (u89bt2 C n) := rfl
theorem u89bt2_s (C : CU) (n : Nat) : u89bt2 C n = seqU (u89_4 C) (u89bt3 C n) := rfl
theorem u89bt3_s (C : CU) (n : Nat) : u89bt3 C n = seqU (u89_5 C) (blockU 0 (loopU n (u89_22 C n))) := rfl
def u90bt2 (C : CU) (n : Nat) : CdU W3 := seqU (u90_4 C) (retU)
def u90bt1 (C : CU) (n : Nat) : CdU W3 := seqU (seqU (u90_1 C) (condU u90_2 (seqU (u90_3 C) (retU)) (skipU))) (u90bt2 C n)
theorem u90b_s (C : CU) (n : Nat) : u90b C n = seqU (u90_0 C) (u90bt1 C n) := rfl
theorem u90bt1_s (C : CU) (n : Nat) : u90bt1 C n = seqU (seqU (u90_1 C) (condU u90_2 (seqU (u90_3 C) (retU)) (skipU))) (u90bt2 C n) := rfl
theorem u90bt2_s (C : CU) (n : Nat) : u90bt2 C n = seqU (u90_4 C) (retU) := rfl
def u101bt5 (C : CU) (n : Nat) : CdU W5 := seqU (u101_7 C) (retU)
def u101bt4 (C : CU) (n : Nat) : CdU W5 := seqU (u101_6 C) (u101bt5 C n)
def u101bt3 (C : CU) (n : Nat) : CdU W5 := seqU (u101_5 C) (u101bt4 C n)
def u101bt2 (C : CU) (n : Nat) : CdU W5 := seqU (seqU (u101_2 C) (condU u101_3 (seqU (u101_4 C) (retU)) (skipU))) (u101bt3 C n)
def u101bt1 (C : CU) (n : Nat) : CdU W5 := seqU (u101_1 C) (u101bt2 C n)
theorem u101b_s (C : CU) (n : Nat) : u101b C n = seqU (u101_0 C) (u101bt1 C n) := rfl
theorem u101bt1_s (C : CU) (n : Nat) : u101bt1 C n = seqU (u101_1 C) (u101bt2 C n) := rfl
theorem u101bt2_s (C : CU) (n : Nat) : u101bt2 C n = seqU (seqU (u101_2 C) (condU u101_3 (seqU (u101_4 C) (retU)) (skipU))) (u101bt3 C n) := rfl
theorem u101bt3_s (C : CU) (n : Nat) : u101bt3 C n = seqU (u101_5 C) (u101bt4 C n) := rfl
theorem u101bt4_s (C : CU) (n : Nat) : u101bt4 C n = seqU (u101_6 C) (u101bt5 C n) := rfl
theorem u101bt5_s (C : CU) (n : Nat) : u101bt5 C n = seqU (u101_7 C) (retU) := rfl
def u102_12t1 (C : CU) (n : Nat) : CdU W8 := seqU (blockU 1 (u102_10 C)) (u102_11 C)
theorem u102_12_s (C : CU) (n : Nat) : u102_12 C n = seqU (seqU (u102_8 C) (condU u102_9 (skipU) (exitU 0))) (u102_12t1 C n) := rfl
theorem u102_12t1_s (C : CU) (n : Nat) : u102_12t1 C n = seqU (blockU 1 (u102_10 C)) (u102_11 C) := rfl
def u102bt4 (C : CU) (n : Nat) : CdU W8 := seqU (u102_13 C) (retU)
def u102bt3 (C : CU) (n : Nat) : CdU W8 := seqU (seqU (u102_7 C) (blockU 0 (loopU n (u102_12 C n)))) (u102bt4 C n)
def u102bt2 (C : CU) (n : Nat) : CdU W8 := seqU (seqU (u102_4 C) (condU u102_5 (seqU (u102_6 C) (retU)) (skipU))) (u102bt3 C n)
def u102bt1 (C : CU) (n : Nat) : CdU W8 := seqU (seqU (u102_1 C) (condU u102_2 (seqU (u102_3 C) (retU)) (skipU))) (u102bt2 C n)
theorem u102b_s (C : CU) (n : Nat) : u102b C n = seqU (u102_0 C) (u102bt1 C n) := rfl
theorem u102bt1_s (C : CU) (n : Nat) : u102bt1 C n = seqU (seqU (u102_1 C) (condU u102_2 (seqU (u102_3 C) (retU)) (skipU))) (u102bt2 C n) := rfl
theorem u102bt2_s (C : CU) (n : Nat) : u102bt2 C n = seqU (seqU (u102_4 C) (condU u102_5 (seqU (u102_6 C) (retU)) (skipU))) (u102bt3 C n) := rfl
theorem u102bt3_s (C : CU) (n : Nat) : u102bt3 C n = seqU (seqU (u102_7 C) (blockU 0 (loopU n (u102_12 C n)))) (u102bt4 C n) := rfl
theorem u102bt4_s (C : CU) (n : Nat) : u102bt4 C n = seqU (u102_13 C) (retU) := rfl
def u103bt2 (C : CU) (n : Nat) : CdU W12 := seqU (u103_4 C) (blockU 0 (loopU n (u103_19 C n)))
def u103bt1 (C : CU) (n : Nat) : CdU W12 := seqU (seqU (u103_1 C) (condU u103_2 (seqU (u103_3 C) (retU)) (skipU))) (u103bt2 C n)
theorem u103b_s (C : CU) (n : Nat) : u103b C n = seqU (u103_0 C) (u103bt1 C n) := rfl
theorem u103bt1_s (C : CU) (n : Nat) : u103bt1 C n = seqU (seqU (u103_1 C) (condU u103_2 (seqU (u103_3 C) (retU)) (skipU))) (u103bt2 C n) := rfl
theorem u103bt2_s (C : CU) (n : Nat) : u103bt2 C n = seqU (u103_4 C) (blockU 0 (loopU n (u103_19 C n))) := rfl
end
theorem u3_in (C : CU) (n : Nat) (p0 p1 p2 p3 : FV) (F : FAW) : u3 C n [p0, p1, p2, p3] F = u3b C n (.mk p0 p1 p2 p3 (.u []) (.u []) (.u []) (.u []) (.u []) (.u []) (.u []) (.u []) (.u []) (.u []) (.u []) (.u []) (.u []) (.u []) (.u [])) F fun o v F => exU o (u3r v F) (fun _ => .no) (u3r v F) := rfl
theorem u3r_mk (a c d e f g h i j k l m o p q r s t w : FV) (S : FAW) : u3r (.mk a c d e f g h i j k l m o p q r s t w ) S = .ok g S := rfl
theorem cl3 (n : Nat) (args : List FV) (F : FAW) : clU msgD (n + 1) 3 args F = u3 (clU msgD n) n args F := clU_get (fun k => by kernel_rfl) n args F
theorem u4_in (C : CU) (n : Nat) (p0 p1 p2 p3 : FV) (F : FAW) : u4 C n [p0, p1, p2, p3] F = u4b C n (.mk p0 p1 p2 p3 (.u []) (.u []) (.u []) (.u []) (.u []) (.u []) (.u []) (.u []) (.u []) (.u []) (.u []) (.u [])) F fun o v F => exU o (u4r v F) (fun _ => .no) (u4r v F) := rfl
theorem u4r_mk (a c d e f g h i j k l m o p q r : FV) (S : FAW) : u4r (.mk a c d e f g h i j k l m o p q r ) S = .ok g S := rfl
theorem cl4 (n : Nat) (args : List FV) (F : FAW) : clU msgD (n + 1) 4 args F = u4 (clU msgD n) n args F := clU_get (fun k => by kernel_rfl) n args F
theorem u14_in (C : CU) (n : Nat) (F : FAW) : u14 C n [] F = u14b C n (.mk (.u []) (.u []) (.u []) (.u []) (.u [])) F fun o v F => exU o (u14r v F) (fun _ => .no) (u14r v F) := rfl
theorem u14r_mk (a c d e f : FV) (S : FAW) : u14r (.mk a c d e f ) S = .ok a S := rfl
theorem cl14 (n : Nat) (args : List FV) (F : FAW) : clU msgD (n + 1) 14 args F = u14 (clU msgD n) n args F := clU_get (fun k => by kernel_rfl) n args F
theorem u15_in (C : CU) (n : Nat) (p0 p1 : FV) (F : FAW) : u15 C n [p0, p1] F = u15b C n (.mk p0 p1 (.u []) (.u []) (.u []) (.u []) (.u []) (.u []) (.u []) (.u []) (.u [])) F fun o v F => exU o (u15r v F) (fun _ => .no) (u15r v F) := rfl
theorem u15r_mk (a c d e f g h i j k l : FV) (S : FAW) : u15r (.mk a c d e f g h i j k l ) S = .ok e S := rfl
theorem cl15 (n : Nat) (args : List FV) (F : FAW) : clU msgD (n + 1) 15 args F = u15 (clU msgD n) n args F := clU_get (fun k => by kernel_rfl) n args F
theorem u16_in (C : CU) (n : Nat) (p0 p1 : FV) (F : FAW) : u16 C n [p0, p1] F = u16b C n (.mk p0 p1 (.u []) (.u []) (.u []) (.u []) (.u []) (.u []) (.u []) (.u [])) F fun o v F => exU o (u16r v F) (fun _ => .no) (u16r v F) := rfl
theorem u16r_mk (a c d e f g h i j k : FV) (S : FAW) : u16r (.mk a c d e f g h i j k ) S = uLd (some 4) d S fun r4 _ => .ok (.u [r4, e, f]) S := rfl
theorem cl16 (n : Nat) (args : List FV) (F : FAW) : clU msgD (n + 1) 16 args F = u16 (clU msgD n) n args F := clU_get (fun k => by kernel_rfl) n args F
theorem u17_in (C : CU) (n : Nat) (p0 p1 : FV) (F : FAW) : u17 C n [p0, p1] F = u17b C n (.mk p0 p1 (.u []) (.u []) (.u []) (.u []) (.u []) (.u []) (.u []) (.u []) (.u []) (.u []) (.u [])) F fun o v F => exU o (u17r v F) (fun _ => .no) (u17r v F) := rfl
theorem u17r_mk (a c d e f g h i j k l m o : FV) (S : FAW) : u17r (.mk a c d e f g h i j k l m o ) S = uLd (some 4) d S fun r4 _ => .ok (.u [r4, e, f]) S := rfl
theorem cl17 (n : Nat) (args : List FV) (F : FAW) : clU msgD (n + 1) 17 args F = u17 (clU msgD n) n args F := clU_get (fun k => by kernel_rfl) n args F
theorem u18_in (C : CU) (n : Nat) (p0 p1 : FV) (F : FAW) : u18 C n [p0, p1] F = u18b C n (.mk p0 p1 (.u []) (.u []) (.u []) (.u []) (.u []) (.u []) (.u []) (.u [])) F fun o v F => exU o (u18r v F) (fun _ => .no) (u18r v F) := rfl
theorem u18r_mk (a c d e f g h i j k : FV) (S : FAW) : u18r (.mk a c d e f g h i j k ) S = .ok e S := rfl
theorem cl18 (n : Nat) (args : List FV) (F : FAW) : clU msgD (n + 1) 18 args F = u18 (clU msgD n) n args F := clU_get (fun k => by kernel_rfl) n args F
theorem u19_in (C : CU) (n : Nat) (p0 p1 : FV) (F : FAW) : u19 C n [p0, p1] F = u19b C n (.mk p0 p1 (.u []) (.u [])) F fun o v F => exU o (u19r v F) (fun _ => .no) (u19r v F) := rfl
theorem u19r_mk (a c d e : FV) (S : FAW) : u19r (.mk a c d e ) S = .ok d S := rfl
theorem cl19 (n : Nat) (args : List FV) (F : FAW) : clU msgD (n + 1) 19 args F = u19 (clU msgD n) n args F := clU_get (fun k => by kernel_rfl) n args F
theorem u52_in (C : CU) (n : Nat) (p0 p1 : FV) (F : FAW) : u52 C n [p0, p1] F = u52b C n (.mk p0 p1 (.u [])) F fun o v F => exU o (u52r v F) (fun _ => .no) (u52r v F) := rfl
theorem u52r_mk (a c d : FV) (S : FAW) : u52r (.mk a c d ) S = .ok d S := rfl
theorem cl52 (n : Nat) (args : List FV) (F : FAW) : clU msgD (n + 1) 52 args F = u52 (clU msgD n) n args F := clU_get (fun k => by kernel_rfl) n args F
theorem u53_in (C : CU) (n : Nat) (p0 p1 p2 : FV) (F : FAW) : u53 C n [p0, p1, p2] F = u53b C n (.mk p0 p1 p2 (.u []) (.u []) (.u []) (.u []) (.u []) (.u [])) F fun o v F => exU o (u53r v F) (fun _ => .no) (u53r v F) := rfl
theorem u53r_mk (a c d e f g h i j : FV) (S : FAW) : u53r (.mk a c d e f g h i j ) S = .ok e S := rfl
theorem cl53 (n : Nat) (args : List FV) (F : FAW) : clU msgD (n + 1) 53 args F = u53 (clU msgD n) n args F := clU_get (fun k => by kernel_rfl) n args F
theorem u54_in (C : CU) (n : Nat) (p0 p1 : FV) (F : FAW) : u54 C n [p0, p1] F = u54b C n (.mk p0 p1 (.u []) (.u []) (.u [])) F fun o v F => exU o (u54r v F) (fun _ => .no) (u54r v F) := rfl
theorem u54r_mk (a c d e f : FV) (S : FAW) : u54r (.mk a c d e f ) S = .ok d S := rfl
theorem cl54 (n : Nat) (args : List FV) (F : FAW) : clU msgD (n + 1) 54 args F = u54 (clU msgD n) n args F := clU_get (fun k => by kernel_rfl) n args F
theorem u55_in (C : CU) (n : Nat) (p0 : FV) (F : FAW) : u55 C n [p0] F = u55b C n (.mk p0 (.u [])) F fun o v F => exU o (u55r v F) (fun _ => .no) (u55r v F) := rfl
theorem u55r_mk (a c : FV) (S : FAW) : u55r (.mk a c ) S = .ok (.u []) S := rfl
theorem cl55 (n : Nat) (args : List FV) (F : FAW) : clU msgD (n + 1) 55 args F = u55 (clU msgD n) n args F := clU_get (fun k => by kernel_rfl) n args F
theorem u56_in (C : CU) (n : Nat) (p0 : FV) (F : FAW) : u56 C n [p0] F = u56b C n (.mk p0 (.u [])) F fun o v F => exU o (u56r v F) (fun _ => .no) (u56r v F) := rfl
theorem u56r_mk (a c : FV) (S : FAW) : u56r (.mk a c ) S = .ok (.u []) S := rfl
theorem cl56 (n : Nat) (args : List FV) (F : FAW) : clU msgD (n + 1) 56 args F = u56 (clU msgD n) n args F := clU_get (fun k => by kernel_rfl) n args F
theorem u57_in (C : CU) (n : Nat) (p0 p1 p2 : FV) (F : FAW) : u57 C n [p0, p1, p2] F = u57b C n (.mk p0 p1 p2 (.u [])) F fun o v F => exU o (u57r v F) (fun _ => .no) (u57r v F) := rfl
theorem u57r_mk (a c d e : FV) (S : FAW) : u57r (.mk a c d e ) S = .ok (.u []) S := rfl
theorem cl57 (n : Nat) (args : List FV) (F : FAW) : clU msgD (n + 1) 57 args F = u57 (clU msgD n) n args F := clU_get (fun k => by kernel_rfl) n args F
theorem u58_in (C : CU) (n : Nat) (p0 p1 : FV) (F : FAW) : u58 C n [p0, p1] F = u58b C n (.mk p0 p1 (.u [])) F fun o v F => exU o (u58r v F) (fun _ => .no) (u58r v F) := rfl
theorem u58r_mk (a c d : FV) (S : FAW) : u58r (.mk a c d ) S = .ok (.u []) S := rfl
theorem cl58 (n : Nat) (args : List FV) (F : FAW) : clU msgD (n + 1) 58 args F = u58 (clU msgD n) n args F := clU_get (fun k => by kernel_rfl) n args F
theorem u59_in (C : CU) (n : Nat) (p0 p1 : FV) (F : FAW) : u59 C n [p0, p1] F = u59b C n (.mk p0 p1 (.u []) (.u []) (.u []) (.u [])) F fun o v F => exU o (u59r v F) (fun _ => .no) (u59r v F) := rfl
theorem u59r_mk (a c d e f g : FV) (S : FAW) : u59r (.mk a c d e f g ) S = .ok d S := rfl
theorem cl59 (n : Nat) (args : List FV) (F : FAW) : clU msgD (n + 1) 59 args F = u59 (clU msgD n) n args F := clU_get (fun k => by kernel_rfl) n args F
theorem u60_in (C : CU) (n : Nat) (p0 p1 : FV) (F : FAW) : u60 C n [p0, p1] F = u60b C n (.mk p0 p1 (.u [])) F fun o v F => exU o (u60r v F) (fun _ => .no) (u60r v F) := rfl
theorem u60r_mk (a c d : FV) (S : FAW) : u60r (.mk a c d ) S = .ok (.u []) S := rfl
theorem cl60 (n : Nat) (args : List FV) (F : FAW) : clU msgD (n + 1) 60 args F = u60 (clU msgD n) n args F := clU_get (fun k => by kernel_rfl) n args F
theorem u61_in (C : CU) (n : Nat) (p0 p1 : FV) (F : FAW) : u61 C n [p0, p1] F = u61b C n (.mk p0 p1 (.u []) (.u []) (.u []) (.u []) (.u []) (.u []) (.u []) (.u [])) F fun o v F => exU o (u61r v F) (fun _ => .no) (u61r v F) := rfl
theorem u61r_mk (a c d e f g h i j k : FV) (S : FAW) : u61r (.mk a c d e f g h i j k ) S = .ok d S := rfl
theorem cl61 (n : Nat) (args : List FV) (F : FAW) : clU msgD (n + 1) 61 args F = u61 (clU msgD n) n args F := clU_get (fun k => by kernel_rfl) n args F
theorem u62_in (C : CU) (n : Nat) (p0 p1 : FV) (F : FAW) : u62 C n [p0, p1] F = u62b C n (.mk p0 p1 (.u []) (.u [])) F fun o v F => exU o (u62r v F) (fun _ => .no) (u62r v F) := rfl
theorem u62r_mk (a c d e : FV) (S : FAW) : u62r (.mk a c d e ) S = .ok d S := rfl
theorem cl62 (n : Nat) (args : List FV) (F : FAW) : clU msgD (n + 1) 62 args F = u62 (clU msgD n) n args F := clU_get (fun k => by kernel_rfl) n args F
theorem u63_in (C : CU) (n : Nat) (p0 : FV) (F : FAW) : u63 C n [p0] F = u63b C n (.mk p0 (.u [])) F fun o v F => exU o (u63r v F) (fun _ => .no) (u63r v F) := rfl
theorem u63r_mk (a c : FV) (S : FAW) : u63r (.mk a c ) S = .ok c S := rfl
theorem cl63 (n : Nat) (args : List FV) (F : FAW) : clU msgD (n + 1) 63 args F = u63 (clU msgD n) n args F := clU_get (fun k => by kernel_rfl) n args F
theorem u64_in (C : CU) (n : Nat) (p0 p1 p2 : FV) (F : FAW) : u64 C n [p0, p1, p2] F = u64b C n (.mk p0 p1 p2 (.u []) (.u []) (.u []) (.u []) (.u [])) F fun o v F => exU o (u64r v F) (fun _ => .no) (u64r v F) := rfl
theorem u64r_mk (a c d e f g h i : FV) (S : FAW) : u64r (.mk a c d e f g h i ) S = .ok e S := rfl
theorem cl64 (n : Nat) (args : List FV) (F : FAW) : clU msgD (n + 1) 64 args F = u64 (clU msgD n) n args F := clU_get (fun k => by kernel_rfl) n args F
theorem u65_in (C : CU) (n : Nat) (p0 p1 : FV) (F : FAW) : u65 C n [p0, p1] F = u65b C n (.mk p0 p1 (.u [])) F fun o v F => exU o (u65r v F) (fun _ => .no) (u65r v F) := rfl
theorem u65r_mk (a c d : FV) (S : FAW) : u65r (.mk a c d ) S = .ok d S := rfl
theorem cl65 (n : Nat) (args : List FV) (F : FAW) : clU msgD (n + 1) 65 args F = u65 (clU msgD n) n args F := clU_get (fun k => by kernel_rfl) n args F
theorem u66_in (C : CU) (n : Nat) (p0 p1 : FV) (F : FAW) : u66 C n [p0, p1] F = u66b C n (.mk p0 p1 (.u []) (.u []) (.u [])) F fun o v F => exU o (u66r v F) (fun _ => .no) (u66r v F) := rfl
theorem u66r_mk (a c d e f : FV) (S : FAW) : u66r (.mk a c d e f ) S = .ok d S := rfl
theorem cl66 (n : Nat) (args : List FV) (F : FAW) : clU msgD (n + 1) 66 args F = u66 (clU msgD n) n args F := clU_get (fun k => by kernel_rfl) n args F
theorem u80_in (C : CU) (n : Nat) (p0 p1 : FV) (F : FAW) : u80 C n [p0, p1] F = u80b C n (.mk p0 p1 (.u [])) F fun o v F => exU o (u80r v F) (fun _ => .no) (u80r v F) := rfl
theorem u80r_mk (a c d : FV) (S : FAW) : u80r (.mk a c d ) S = .ok d S := rfl
theorem cl80 (n : Nat) (args : List FV) (F : FAW) : clU msgD (n + 1) 80 args F = u80 (clU msgD n) n args F := clU_get (fun k => by kernel_rfl) n args F
theorem u81_in (C : CU) (n : Nat) (p0 : FV) (F : FAW) : u81 C n [p0] F = u81b C n (.mk p0 (.u []) (.u [])) F fun o v F => exU o (u81r v F) (fun _ => .no) (u81r v F) := rfl
theorem u81r_mk (a c d : FV) (S : FAW) : u81r (.mk a c d ) S = .ok c S := rfl
theorem cl81 (n : Nat) (args : List FV) (F : FAW) : clU msgD (n + 1) 81 args F = u81 (clU msgD n) n args F := clU_get (fun k => by kernel_rfl) n args F
theorem u82_in (C : CU) (n : Nat) (p0 p1 : FV) (F : FAW) : u82 C n [p0, p1] F = u82b C n (.mk p0 p1 (.u [])) F fun o v F => exU o (u82r v F) (fun _ => .no) (u82r v F) := rfl
theorem u82r_mk (a c d : FV) (S : FAW) : u82r (.mk a c d ) S = .ok d S := rfl
theorem cl82 (n : Nat) (args : List FV) (F : FAW) : clU msgD (n + 1) 82 args F = u82 (clU msgD n) n args F := clU_get (fun k => by kernel_rfl) n args F
theorem u83_in (C : CU) (n : Nat) (p0 : FV) (F : FAW) : u83 C n [p0] F = u83b C n (.mk p0 (.u []) (.u []) (.u [])) F fun o v F => exU o (u83r v F) (fun _ => .no) (u83r v F) := rfl
theorem u83r_mk (a c d e : FV) (S : FAW) : u83r (.mk a c d e ) S = .ok c S := rfl
theorem cl83 (n : Nat) (args : List FV) (F : FAW) : clU msgD (n + 1) 83 args F = u83 (clU msgD n) n args F := clU_get (fun k => by kernel_rfl) n args F
theorem u84_in (C : CU) (n : Nat) (p0 p1 : FV) (F : FAW) : u84 C n [p0, p1] F = u84b C n (.mk p0 p1) F fun o v F => exU o (u84r v F) (fun _ => .no) (u84r v F) := rfl
theorem u84r_mk (a c : FV) (S : FAW) : u84r (.mk a c ) S = .ok (.u []) S := rfl
theorem cl84 (n : Nat) (args : List FV) (F : FAW) : clU msgD (n + 1) 84 args F = u84 (clU msgD n) n args F := clU_get (fun k => by kernel_rfl) n args F
theorem u85_in (C : CU) (n : Nat) (p0 : FV) (F : FAW) : u85 C n [p0] F = u85b C n (.mk p0 (.u []) (.u []) (.u []) (.u []) (.u [])) F fun o v F => exU o (u85r v F) (fun _ => .no) (u85r v F) := rfl
theorem u85r_mk (a c d e f g : FV) (S : FAW) : u85r (.mk a c d e f g ) S = .ok c S := rfl
theorem cl85 (n : Nat) (args : List FV) (F : FAW) : clU msgD (n + 1) 85 args F = u85 (clU msgD n) n args F := clU_get (fun k => by kernel_rfl) n args F
theorem u86_in (C : CU) (n : Nat) (p0 p1 : FV) (F : FAW) : u86 C n [p0, p1] F = u86b C n (.mk p0 p1 (.u [])) F fun o v F => exU o (u86r v F) (fun _ => .no) (u86r v F) := rfl
theorem u86r_mk (a c d : FV) (S : FAW) : u86r (.mk a c d ) S = .ok (.u []) S := rfl
theorem cl86 (n : Nat) (args : List FV) (F : FAW) : clU msgD (n + 1) 86 args F = u86 (clU msgD n) n args F := clU_get (fun k => by kernel_rfl) n args F
theorem u87_in (C : CU) (n : Nat) (p0 p1 : FV) (F : FAW) : u87 C n [p0, p1] F = u87b C n (.mk p0 p1 (.u []) (.u []) (.u []) (.u []) (.u [])) F fun o v F => exU o (u87r v F) (fun _ => .no) (u87r v F) := rfl
theorem u87r_mk (a c d e f g h : FV) (S : FAW) : u87r (.mk a c d e f g h ) S = .ok d S := rfl
theorem cl87 (n : Nat) (args : List FV) (F : FAW) : clU msgD (n + 1) 87 args F = u87 (clU msgD n) n args F := clU_get (fun k => by kernel_rfl) n args F
theorem u88_in (C : CU) (n : Nat) (p0 p1 : FV) (F : FAW) : u88 C n [p0, p1] F = u88b C n (.mk p0 p1 (.u []) (.u []) (.u []) (.u []) (.u []) (.u []) (.u [])) F fun o v F => exU o (u88r v F) (fun _ => .no) (u88r v F) := rfl
theorem u88r_mk (a c d e f g h i j : FV) (S : FAW) : u88r (.mk a c d e f g h i j ) S = .ok (.u [d, e]) S := rfl
theorem cl88 (n : Nat) (args : List FV) (F : FAW) : clU msgD (n + 1) 88 args F = u88 (clU msgD n) n args F := clU_get (fun k => by kernel_rfl) n args F
theorem u89_in (C : CU) (n : Nat) (p0 p1 : FV) (F : FAW) : u89 C n [p0, p1] F = u89b C n (.mk p0 p1 (.u []) (.u []) (.u []) (.u []) (.u []) (.u []) (.u []) (.u []) (.u []) (.u []) (.u []) (.u [])) F fun o v F => exU o (u89r v F) (fun _ => .no) (u89r v F) := rfl
theorem u89r_mk (a c d e f g h i j k l m o p : FV) (S : FAW) : u89r (.mk a c d e f g h i j k l m o p ) S = .ok (.u [d, e, f]) S := rfl
theorem cl89 (n : Nat) (args : List FV) (F : FAW) : clU msgD (n + 1) 89 args F = u89 (clU msgD n) n args F := clU_get (fun k => by kernel_rfl) n args F
theorem u90_in (C : CU) (n : Nat) (p0 : FV) (F : FAW) : u90 C n [p0] F = u90b C n (.mk p0 (.u []) (.u [])) F fun o v F => exU o (u90r v F) (fun _ => .no) (u90r v F) := rfl
theorem u90r_mk (a c d : FV) (S : FAW) : u90r (.mk a c d ) S = .ok c S := rfl
theorem cl90 (n : Nat) (args : List FV) (F : FAW) : clU msgD (n + 1) 90 args F = u90 (clU msgD n) n args F := clU_get (fun k => by kernel_rfl) n args F
theorem u101_in (C : CU) (n : Nat) (p0 p1 : FV) (F : FAW) : u101 C n [p0, p1] F = u101b C n (.mk p0 p1 (.u []) (.u []) (.u [])) F fun o v F => exU o (u101r v F) (fun _ => .no) (u101r v F) := rfl
theorem u101r_mk (a c d e f : FV) (S : FAW) : u101r (.mk a c d e f ) S = .ok d S := rfl
theorem cl101 (n : Nat) (args : List FV) (F : FAW) : clU msgD (n + 1) 101 args F = u101 (clU msgD n) n args F := clU_get (fun k => by kernel_rfl) n args F
theorem u102_in (C : CU) (n : Nat) (p0 p1 : FV) (F : FAW) : u102 C n [p0, p1] F = u102b C n (.mk p0 p1 (.u []) (.u []) (.u []) (.u []) (.u []) (.u [])) F fun o v F => exU o (u102r v F) (fun _ => .no) (u102r v F) := rfl
theorem u102r_mk (a c d e f g h i : FV) (S : FAW) : u102r (.mk a c d e f g h i ) S = .ok (.u [d, e]) S := rfl
theorem cl102 (n : Nat) (args : List FV) (F : FAW) : clU msgD (n + 1) 102 args F = u102 (clU msgD n) n args F := clU_get (fun k => by kernel_rfl) n args F
theorem u103_in (C : CU) (n : Nat) (p0 p1 : FV) (F : FAW) : u103 C n [p0, p1] F = u103b C n (.mk p0 p1 (.u []) (.u []) (.u []) (.u []) (.u []) (.u []) (.u []) (.u []) (.u []) (.u [])) F fun o v F => exU o (u103r v F) (fun _ => .no) (u103r v F) := rfl
theorem u103r_mk (a c d e f g h i j k l m : FV) (S : FAW) : u103r (.mk a c d e f g h i j k l m ) S = .ok (.u [d, e, f]) S := rfl
theorem cl103 (n : Nat) (args : List FV) (F : FAW) : clU msgD (n + 1) 103 args F = u103 (clU msgD n) n args F := clU_get (fun k => by kernel_rfl) n args F
end Go.Proofs.Ytgejdfhfgphcbaa.Ev
