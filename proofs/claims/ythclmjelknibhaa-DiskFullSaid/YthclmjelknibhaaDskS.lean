/- The texts, for reasoning: how each function is entered and left. -/
import Derived.Test.YthclmjelknibhaaDskY
import Derived.Test.YthclmjelknibhaaEvS
namespace Go.Proofs.Ythclmjelknibhaa.Ev
open Go Go.RowKit
set_option linter.unusedVariables false
set_option linter.constructorNameAsVariable false
noncomputable section
def u4bt12 (C : CU) (n : Nat) : CdU W16 := seqU (u4_23 C) (retU)
def u4bt11 (C : CU) (n : Nat) : CdU W16 := seqU (u4_22 C) (u4bt12 C n)
def u4bt10 (C : CU) (n : Nat) : CdU W16 := seqU (u4_21 C) (u4bt11 C n)
def u4bt9 (C : CU) (n : Nat) : CdU W16 := seqU (u4_20 C) (u4bt10 C n)
def u4bt8 (C : CU) (n : Nat) : CdU W16 := seqU (u4_19 C) (u4bt9 C n)
def u4bt7 (C : CU) (n : Nat) : CdU W16 := seqU (u4_18 C) (u4bt8 C n)
def u4bt6 (C : CU) (n : Nat) : CdU W16 := seqU (seqU (u4_12 C) (condU u4_13 (seqU (u4_14 C) (seqU (u4_15 C) (condU u4_16 (seqU (u4_17 C) (retU)) (skipU)))) (skipU))) (u4bt7 C n)
def u4bt5 (C : CU) (n : Nat) : CdU W16 := seqU (u4_11 C) (u4bt6 C n)
def u4bt4 (C : CU) (n : Nat) : CdU W16 := seqU (seqU (u4_8 C) (condU u4_9 (seqU (u4_10 C) (retU)) (skipU))) (u4bt5 C n)
def u4bt3 (C : CU) (n : Nat) : CdU W16 := seqU (u4_7 C) (u4bt4 C n)
def u4bt2 (C : CU) (n : Nat) : CdU W16 := seqU (seqU (u4_4 C) (condU u4_5 (seqU (u4_6 C) (retU)) (skipU))) (u4bt3 C n)
def u4bt1 (C : CU) (n : Nat) : CdU W16 := seqU (seqU (u4_1 C) (condU u4_2 (seqU (u4_3 C) (retU)) (skipU))) (u4bt2 C n)
theorem u4b_s (C : CU) (n : Nat) : u4b C n = seqU (u4_0 C) (u4bt1 C n) := rfl
theorem u4bt1_s (C : CU) (n : Nat) : u4bt1 C n = seqU (seqU (u4_1 C) (condU u4_2 (seqU (u4_3 C) (retU)) (skipU))) (u4bt2 C n) := rfl
theorem u4bt2_s (C : CU) (n : Nat) : u4bt2 C n = seqU (seqU (u4_4 C) (condU u4_5 (seqU (u4_6 C) (retU)) (skipU))) (u4bt3 C n) := rfl
theorem u4bt3_s (C : CU) (n : Nat) : u4bt3 C n = seqU (u4_7 C) (u4bt4 C n) := rfl
theorem u4bt4_s (C : CU) (n : Nat) : u4bt4 C n = seqU (seqU (u4_8 C) (condU u4_9 (seqU (u4_10 C) (retU)) (skipU))) (u4bt5 C n) := rfl
theorem u4bt5_s (C : CU) (n : Nat) : u4bt5 C n = seqU (u4_11 C) (u4bt6 C n) := rfl
theorem u4bt6_s (C : CU) (n : Nat) : u4bt6 C n = seqU (seqU (u4_12 C) (condU u4_13 (seqU (u4_14 C) (seqU (u4_15 C) (condU u4_16 (seqU (u4_17 C) (retU)) (skipU)))) (skipU))) (u4bt7 C n) := rfl
theorem u4bt7_s (C : CU) (n : Nat) : u4bt7 C n = seqU (u4_18 C) (u4bt8 C n) := rfl
theorem u4bt8_s (C : CU) (n : Nat) : u4bt8 C n = seqU (u4_19 C) (u4bt9 C n) := rfl
theorem u4bt9_s (C : CU) (n : Nat) : u4bt9 C n = seqU (u4_20 C) (u4bt10 C n) := rfl
theorem u4bt10_s (C : CU) (n : Nat) : u4bt10 C n = seqU (u4_21 C) (u4bt11 C n) := rfl
theorem u4bt11_s (C : CU) (n : Nat) : u4bt11 C n = seqU (u4_22 C) (u4bt12 C n) := rfl
theorem u4bt12_s (C : CU) (n : Nat) : u4bt12 C n = seqU (u4_23 C) (retU) := rfl
def u5bt15 (C : CU) (n : Nat) : CdU W18 := seqU (u5_25 C) (retU)
def u5bt14 (C : CU) (n : Nat) : CdU W18 := seqU (seqU (u5_22 C) (condU u5_23 (u5_24 C) (skipU))) (u5bt15 C n)
def u5bt13 (C : CU) (n : Nat) : CdU W18 := seqU (u5_21 C) (u5bt14 C n)
def u5bt12 (C : CU) (n : Nat) : CdU W18 := seqU (u5_20 C) (u5bt13 C n)
def u5bt11 (C : CU) (n : Nat) : CdU W18 := seqU (u5_19 C) (u5bt12 C n)
def u5bt10 (C : CU) (n : Nat) : CdU W18 := seqU (u5_18 C) (u5bt11 C n)
def u5bt9 (C : CU) (n : Nat) : CdU W18 := seqU (u5_17 C) (u5bt10 C n)
def u5bt8 (C : CU) (n : Nat) : CdU W18 := seqU (u5_16 C) (u5bt9 C n)
def u5bt7 (C : CU) (n : Nat) : CdU W18 := seqU (u5_15 C) (u5bt8 C n)
def u5bt6 (C : CU) (n : Nat) : CdU W18 := seqU (u5_14 C) (u5bt7 C n)
def u5bt5 (C : CU) (n : Nat) : CdU W18 := seqU (seqU (u5_11 C) (condU u5_12 (seqU (u5_13 C) (retU)) (skipU))) (u5bt6 C n)
def u5bt4 (C : CU) (n : Nat) : CdU W18 := seqU (seqU (u5_8 C) (condU u5_9 (seqU (u5_10 C) (retU)) (skipU))) (u5bt5 C n)
def u5bt3 (C : CU) (n : Nat) : CdU W18 := seqU (u5_7 C) (u5bt4 C n)
def u5bt2 (C : CU) (n : Nat) : CdU W18 := seqU (seqU (u5_4 C) (condU u5_5 (seqU (u5_6 C) (retU)) (skipU))) (u5bt3 C n)
def u5bt1 (C : CU) (n : Nat) : CdU W18 := seqU (seqU (u5_1 C) (condU u5_2 (seqU (u5_3 C) (retU)) (skipU))) (u5bt2 C n)
theorem u5b_s (C : CU) (n : Nat) : u5b C n = seqU (u5_0 C) (u5bt1 C n) := rfl
theorem u5bt1_s (C : CU) (n : Nat) : u5bt1 C n = seqU (seqU (u5_1 C) (condU u5_2 (seqU (u5_3 C) (retU)) (skipU))) (u5bt2 C n) := rfl
theorem u5bt2_s (C : CU) (n : Nat) : u5bt2 C n = seqU (seqU (u5_4 C) (condU u5_5 (seqU (u5_6 C) (retU)) (skipU))) (u5bt3 C n) := rfl
theorem u5bt3_s (C : CU) (n : Nat) : u5bt3 C n = seqU (u5_7 C) (u5bt4 C n) := rfl
theorem u5bt4_s (C : CU) (n : Nat) : u5bt4 C n = seqU (seqU (u5_8 C) (condU u5_9 (seqU (u5_10 C) (retU)) (skipU))) (u5bt5 C n) := rfl
theorem u5bt5_s (C : CU) (n : Nat) : u5bt5 C n = seqU (seqU (u5_11 C) (condU u5_12 (seqU (u5_13 C) (retU)) (skipU))) (u5bt6 C n) := rfl
theorem u5bt6_s (C : CU) (n : Nat) : u5bt6 C n = seqU (u5_14 C) (u5bt7 C n) := rfl
theorem u5bt7_s (C : CU) (n : Nat) : u5bt7 C n = seqU (u5_15 C) (u5bt8 C n) := rfl
theorem u5bt8_s (C : CU) (n : Nat) : u5bt8 C n = seqU (u5_16 C) (u5bt9 C n) := rfl
theorem u5bt9_s (C : CU) (n : Nat) : u5bt9 C n = seqU (u5_17 C) (u5bt10 C n) := rfl
theorem u5bt10_s (C : CU) (n : Nat) : u5bt10 C n = seqU (u5_18 C) (u5bt11 C n) := rfl
theorem u5bt11_s (C : CU) (n : Nat) : u5bt11 C n = seqU (u5_19 C) (u5bt12 C n) := rfl
theorem u5bt12_s (C : CU) (n : Nat) : u5bt12 C n = seqU (u5_20 C) (u5bt13 C n) := rfl
theorem u5bt13_s (C : CU) (n : Nat) : u5bt13 C n = seqU (u5_21 C) (u5bt14 C n) := rfl
theorem u5bt14_s (C : CU) (n : Nat) : u5bt14 C n = seqU (seqU (u5_22 C) (condU u5_23 (u5_24 C) (skipU))) (u5bt15 C n) := rfl
theorem u5bt15_s (C : CU) (n : Nat) : u5bt15 C n = seqU (u5_25 C) (retU) := rfl
def u6_27t1 (C : CU) (n : Nat) : CdU W17 := seqU (blockU 1 (seqU (u6_12 C) (seqU (u6_13 C) (seqU (seqU (u6_14 C) (condU u6_15 (seqU (u6_16 C) (condU u6_17 (seqU (u6_18 C) (retU)) (skipU))) (seqU (u6_19 C) (condU u6_20 (seqU (u6_21 C) (retU)) (u6_22 C))))) (seqU (u6_23 C) (condU u6_24 (seqU (u6_25 C) (retU)) (skipU))))))) (u6_26 C)
theorem u6_27_s (C : CU) (n : Nat) : u6_27 C n = seqU (seqU (u6_10 C) (condU u6_11 (skipU) (exitU 0))) (u6_27t1 C n) := rfl
theorem u6_27t1_s (C : CU) (n : Nat) : u6_27t1 C n = seqU (blockU 1 (seqU (u6_12 C) (seqU (u6_13 C) (seqU (seqU (u6_14 C) (condU u6_15 (seqU (u6_16 C) (condU u6_17 (seqU (u6_18 C) (retU)) (skipU))) (seqU (u6_19 C) (condU u6_20 (seqU (u6_21 C) (retU)) (u6_22 C))))) (seqU (u6_23 C) (condU u6_24 (seqU (u6_25 C) (retU)) (skipU))))))) (u6_26 C) := rfl
def u6bt8 (C : CU) (n : Nat) : CdU W17 := seqU (u6_30 C) (retU)
def u6bt7 (C : CU) (n : Nat) : CdU W17 := seqU (u6_29 C) (u6bt8 C n)
def u6bt6 (C : CU) (n : Nat) : CdU W17 := seqU (u6_28 C) (u6bt7 C n)
def u6bt5 (C : CU) (n : Nat) : CdU W17 := seqU (seqU (u6_9 C) (blockU 0 (loopU n (u6_27 C n)))) (u6bt6 C n)
def u6bt4 (C : CU) (n : Nat) : CdU W17 := seqU (u6_8 C) (u6bt5 C n)
def u6bt3 (C : CU) (n : Nat) : CdU W17 := seqU (u6_7 C) (u6bt4 C n)
def u6bt2 (C : CU) (n : Nat) : CdU W17 := seqU (seqU (u6_4 C) (condU u6_5 (seqU (u6_6 C) (retU)) (skipU))) (u6bt3 C n)
def u6bt1 (C : CU) (n : Nat) : CdU W17 := seqU (seqU (u6_1 C) (condU u6_2 (seqU (u6_3 C) (retU)) (skipU))) (u6bt2 C n)
theorem u6b_s (C : CU) (n : Nat) : u6b C n = seqU (u6_0 C) (u6bt1 C n) := rfl
theorem u6bt1_s (C : CU) (n : Nat) : u6bt1 C n = seqU (seqU (u6_1 C) (condU u6_2 (seqU (u6_3 C) (retU)) (skipU))) (u6bt2 C n) := rfl
theorem u6bt2_s (C : CU) (n : Nat) : u6bt2 C n = seqU (seqU (u6_4 C) (condU u6_5 (seqU (u6_6 C) (retU)) (skipU))) (u6bt3 C n) := rfl
theorem u6bt3_s (C : CU) (n : Nat) : u6bt3 C n = seqU (u6_7 C) (u6bt4 C n) := rfl
theorem u6bt4_s (C : CU) (n : Nat) : u6bt4 C n = seqU (u6_8 C) (u6bt5 C n) := rfl
theorem u6bt5_s (C : CU) (n : Nat) : u6bt5 C n = seqU (seqU (u6_9 C) (blockU 0 (loopU n (u6_27 C n)))) (u6bt6 C n) := rfl
theorem u6bt6_s (C : CU) (n : Nat) : u6bt6 C n = seqU (u6_28 C) (u6bt7 C n) := rfl
theorem u6bt7_s (C : CU) (n : Nat) : u6bt7 C n = seqU (u6_29 C) (u6bt8 C n) := rfl
theorem u6bt8_s (C : CU) (n : Nat) : u6bt8 C n = seqU (u6_30 C) (retU) := rfl
def u14bt9 (C : CU) (n : Nat) : CdU W8 := seqU (u14_11 C) (retU)
def u14bt8 (C : CU) (n : Nat) : CdU W8 := seqU (u14_10 C) (u14bt9 C n)
def u14bt7 (C : CU) (n : Nat) : CdU W8 := seqU (u14_9 C) (u14bt8 C n)
def u14bt6 (C : CU) (n : Nat) : CdU W8 := seqU (u14_8 C) (u14bt7 C n)
def u14bt5 (C : CU) (n : Nat) : CdU W8 := seqU (u14_7 C) (u14bt6 C n)
def u14bt4 (C : CU) (n : Nat) : CdU W8 := seqU (u14_6 C) (u14bt5 C n)
def u14bt3 (C : CU) (n : Nat) : CdU W8 := seqU (u14_5 C) (u14bt4 C n)
def u14bt2 (C : CU) (n : Nat) : CdU W8 := seqU (seqU (u14_2 C) (condU u14_3 (seqU (u14_4 C) (retU)) (skipU))) (u14bt3 C n)
def u14bt1 (C : CU) (n : Nat) : CdU W8 := seqU (u14_1 C) (u14bt2 C n)
theorem u14b_s (C : CU) (n : Nat) : u14b C n = seqU (u14_0 C) (u14bt1 C n) := rfl
theorem u14bt1_s (C : CU) (n : Nat) : u14bt1 C n = seqU (u14_1 C) (u14bt2 C n) := rfl
theorem u14bt2_s (C : CU) (n : Nat) : u14bt2 C n = seqU (seqU (u14_2 C) (condU u14_3 (seqU (u14_4 C) (retU)) (skipU))) (u14bt3 C n) := rfl
theorem u14bt3_s (C : CU) (n : Nat) : u14bt3 C n = seqU (u14_5 C) (u14bt4 C n) := rfl
theorem u14bt4_s (C : CU) (n : Nat) : u14bt4 C n = seqU (u14_6 C) (u14bt5 C n) := rfl
theorem u14bt5_s (C : CU) (n : Nat) : u14bt5 C n = seqU (u14_7 C) (u14bt6 C n) := rfl
theorem u14bt6_s (C : CU) (n : Nat) : u14bt6 C n = seqU (u14_8 C) (u14bt7 C n) := rfl
theorem u14bt7_s (C : CU) (n : Nat) : u14bt7 C n = seqU (u14_9 C) (u14bt8 C n) := rfl
theorem u14bt8_s (C : CU) (n : Nat) : u14bt8 C n = seqU (u14_10 C) (u14bt9 C n) := rfl
theorem u14bt9_s (C : CU) (n : Nat) : u14bt9 C n = seqU (u14_11 C) (retU) := rfl
def u15bt1 (C : CU) (n : Nat) : CdU W2 := seqU (u15_1 C) (retU)
theorem u15b_s (C : CU) (n : Nat) : u15b C n = seqU (u15_0 C) (u15bt1 C n) := rfl
theorem u15bt1_s (C : CU) (n : Nat) : u15bt1 C n = seqU (u15_1 C) (retU) := rfl
def u17bt4 (C : CU) (n : Nat) : CdU W11 := seqU (u17_9 C) (retU)
def u17bt3 (C : CU) (n : Nat) : CdU W11 := seqU (u17_8 C) (u17bt4 C n)
def u17bt2 (C : CU) (n : Nat) : CdU W11 := seqU (seqU (u17_5 C) (condU u17_6 (seqU (u17_7 C) (retU)) (skipU))) (u17bt3 C n)
def u17bt1 (C : CU) (n : Nat) : CdU W11 := seqU (seqU (u17_1 C) (seqU (u17_2 C) (condU u17_3 (seqU (u17_4 C) (retU)) (skipU)))) (u17bt2 C n)
theorem u17b_s (C : CU) (n : Nat) : u17b C n = seqU (u17_0 C) (u17bt1 C n) := rfl
theorem u17bt1_s (C : CU) (n : Nat) : u17bt1 C n = seqU (seqU (u17_1 C) (seqU (u17_2 C) (condU u17_3 (seqU (u17_4 C) (retU)) (skipU)))) (u17bt2 C n) := rfl
theorem u17bt2_s (C : CU) (n : Nat) : u17bt2 C n = seqU (seqU (u17_5 C) (condU u17_6 (seqU (u17_7 C) (retU)) (skipU))) (u17bt3 C n) := rfl
theorem u17bt3_s (C : CU) (n : Nat) : u17bt3 C n = seqU (u17_8 C) (u17bt4 C n) := rfl
theorem u17bt4_s (C : CU) (n : Nat) : u17bt4 C n = seqU (u17_9 C) (retU) := rfl
def u18bt2 (C : CU) (n : Nat) : CdU W7 := seqU (u18_5 C) (retU)
def u18bt1 (C : CU) (n : Nat) : CdU W7 := seqU (seqU (u18_1 C) (seqU (u18_2 C) (condU u18_3 (seqU (u18_4 C) (retU)) (skipU)))) (u18bt2 C n)
theorem u18b_s (C : CU) (n : Nat) : u18b C n = seqU (u18_0 C) (u18bt1 C n) := rfl
theorem u18bt1_s (C : CU) (n : Nat) : u18bt1 C n = seqU (seqU (u18_1 C) (seqU (u18_2 C) (condU u18_3 (seqU (u18_4 C) (retU)) (skipU)))) (u18bt2 C n) := rfl
theorem u18bt2_s (C : CU) (n : Nat) : u18bt2 C n = seqU (u18_5 C) (retU) := rfl
def u20bt2 (C : CU) (n : Nat) : CdU W6 := seqU (u20_5 C) (retU)
def u20bt1 (C : CU) (n : Nat) : CdU W6 := seqU (seqU (u20_1 C) (seqU (u20_2 C) (condU u20_3 (seqU (u20_4 C) (retU)) (skipU)))) (u20bt2 C n)
theorem u20b_s (C : CU) (n : Nat) : u20b C n = seqU (u20_0 C) (u20bt1 C n) := rfl
theorem u20bt1_s (C : CU) (n : Nat) : u20bt1 C n = seqU (seqU (u20_1 C) (seqU (u20_2 C) (condU u20_3 (seqU (u20_4 C) (retU)) (skipU)))) (u20bt2 C n) := rfl
theorem u20bt2_s (C : CU) (n : Nat) : u20bt2 C n = seqU (u20_5 C) (retU) := rfl
def u21bt2 (C : CU) (n : Nat) : CdU W9 := seqU (u21_5 C) (retU)
def u21bt1 (C : CU) (n : Nat) : CdU W9 := seqU (seqU (u21_1 C) (seqU (u21_2 C) (condU u21_3 (seqU (u21_4 C) (retU)) (skipU)))) (u21bt2 C n)
theorem u21b_s (C : CU) (n : Nat) : u21b C n = seqU (u21_0 C) (u21bt1 C n) := rfl
theorem u21bt1_s (C : CU) (n : Nat) : u21bt1 C n = seqU (seqU (u21_1 C) (seqU (u21_2 C) (condU u21_3 (seqU (u21_4 C) (retU)) (skipU)))) (u21bt2 C n) := rfl
theorem u21bt2_s (C : CU) (n : Nat) : u21bt2 C n = seqU (u21_5 C) (retU) := rfl
def u25bt1 (C : CU) (n : Nat) : CdU W2 := seqU (u25_1 C) (retU)
theorem u25b_s (C : CU) (n : Nat) : u25b C n = seqU (u25_0 C) (u25bt1 C n) := rfl
theorem u25bt1_s (C : CU) (n : Nat) : u25bt1 C n = seqU (u25_1 C) (retU) := rfl
def u26bt2 (C : CU) (n : Nat) : CdU W7 := seqU (u26_5 C) (retU)
def u26bt1 (C : CU) (n : Nat) : CdU W7 := seqU (seqU (u26_1 C) (seqU (u26_2 C) (condU u26_3 (seqU (u26_4 C) (retU)) (skipU)))) (u26bt2 C n)
theorem u26b_s (C : CU) (n : Nat) : u26b C n = seqU (u26_0 C) (u26bt1 C n) := rfl
theorem u26bt1_s (C : CU) (n : Nat) : u26bt1 C n = seqU (seqU (u26_1 C) (seqU (u26_2 C) (condU u26_3 (seqU (u26_4 C) (retU)) (skipU)))) (u26bt2 C n) := rfl
theorem u26bt2_s (C : CU) (n : Nat) : u26bt2 C n = seqU (u26_5 C) (retU) := rfl
def u27bt1 (C : CU) (n : Nat) : CdU W2 := seqU (u27_1 C) (retU)
theorem u27b_s (C : CU) (n : Nat) : u27b C n = seqU (u27_0 C) (u27bt1 C n) := rfl
theorem u27bt1_s (C : CU) (n : Nat) : u27bt1 C n = seqU (u27_1 C) (retU) := rfl
def u28bt4 (C : CU) (n : Nat) : CdU W4 := seqU (u28_6 C) (retU)
def u28bt3 (C : CU) (n : Nat) : CdU W4 := seqU (u28_5 C) (u28bt4 C n)
def u28bt2 (C : CU) (n : Nat) : CdU W4 := seqU (u28_4 C) (u28bt3 C n)
def u28bt1 (C : CU) (n : Nat) : CdU W4 := seqU (seqU (u28_1 C) (condU u28_2 (seqU (u28_3 C) (retU)) (skipU))) (u28bt2 C n)
theorem u28b_s (C : CU) (n : Nat) : u28b C n = seqU (u28_0 C) (u28bt1 C n) := rfl
theorem u28bt1_s (C : CU) (n : Nat) : u28bt1 C n = seqU (seqU (u28_1 C) (condU u28_2 (seqU (u28_3 C) (retU)) (skipU))) (u28bt2 C n) := rfl
theorem u28bt2_s (C : CU) (n : Nat) : u28bt2 C n = seqU (u28_4 C) (u28bt3 C n) := rfl
theorem u28bt3_s (C : CU) (n : Nat) : u28bt3 C n = seqU (u28_5 C) (u28bt4 C n) := rfl
theorem u28bt4_s (C : CU) (n : Nat) : u28bt4 C n = seqU (u28_6 C) (retU) := rfl
def u49bt2 (C : CU) (n : Nat) : CdU W4 := seqU (u49_7 C) (retU)
def u49bt1 (C : CU) (n : Nat) : CdU W4 := seqU (blockU 0 (seqU (u49_1 C) (condU u49_2 (seqU (u49_3 C) (retU)) (seqU (u49_4 C) (condU u49_5 (seqU (u49_6 C) (retU)) (skipU)))))) (u49bt2 C n)
theorem u49b_s (C : CU) (n : Nat) : u49b C n = seqU (u49_0 C) (u49bt1 C n) := rfl
theorem u49bt1_s (C : CU) (n : Nat) : u49bt1 C n = seqU (blockU 0 (seqU (u49_1 C) (condU u49_2 (seqU (u49_3 C) (retU)) (seqU (u49_4 C) (condU u49_5 (seqU (u49_6 C) (retU)) (skipU)))))) (u49bt2 C n) := rfl
theorem u49bt2_s (C : CU) (n : Nat) : u49bt2 C n = seqU (u49_7 C) (retU) := rfl
def u51_11t2 (C : CU) (n : Nat) : CdU W15 := seqU (blockU 1 (seqU (u51_5 C) (seqU (u51_6 C) (seqU (u51_7 C) (condU u51_8 (u51_9 C) (skipU)))))) (u51_10 C)
def u51_11t1 (C : CU) (n : Nat) : CdU W15 := seqU (condU u51_4 (skipU) (exitU 0)) (u51_11t2 C n)
theorem u51_11_s (C : CU) (n : Nat) : u51_11 C n = seqU (u51_3 C) (u51_11t1 C n) := rfl
theorem u51_11t1_s (C : CU) (n : Nat) : u51_11t1 C n = seqU (condU u51_4 (skipU) (exitU 0)) (u51_11t2 C n) := rfl
theorem u51_11t2_s (C : CU) (n : Nat) : u51_11t2 C n = seqU (blockU 1 (seqU (u51_5 C) (seqU (u51_6 C) (seqU (u51_7 C) (condU u51_8 (u51_9 C) (skipU)))))) (u51_10 C) := rfl
def u51_19t2 (C : CU) (n : Nat) : CdU W15 := seqU (blockU 3 (seqU (u51_16 C) (u51_17 C))) (u51_18 C)
def u51_19t1 (C : CU) (n : Nat) : CdU W15 := seqU (condU u51_15 (skipU) (exitU 2)) (u51_19t2 C n)
theorem u51_19_s (C : CU) (n : Nat) : u51_19 C n = seqU (u51_14 C) (u51_19t1 C n) := rfl
theorem u51_19t1_s (C : CU) (n : Nat) : u51_19t1 C n = seqU (condU u51_15 (skipU) (exitU 2)) (u51_19t2 C n) := rfl
theorem u51_19t2_s (C : CU) (n : Nat) : u51_19t2 C n = seqU (blockU 3 (seqU (u51_16 C) (u51_17 C))) (u51_18 C) := rfl
def u51bt5 (C : CU) (n : Nat) : CdU W15 := seqU (u51_20 C) (retU)
def u51bt4 (C : CU) (n : Nat) : CdU W15 := seqU (seqU (u51_13 C) (blockU 2 (loopU n (u51_19 C n)))) (u51bt5 C n)
def u51bt3 (C : CU) (n : Nat) : CdU W15 := seqU (u51_12 C) (u51bt4 C n)
def u51bt2 (C : CU) (n : Nat) : CdU W15 := seqU (seqU (u51_2 C) (blockU 0 (loopU n (u51_11 C n)))) (u51bt3 C n)
def u51bt1 (C : CU) (n : Nat) : CdU W15 := seqU (u51_1 C) (u51bt2 C n)
theorem u51b_s (C : CU) (n : Nat) : u51b C n = seqU (u51_0 C) (u51bt1 C n) := rfl
theorem u51bt1_s (C : CU) (n : Nat) : u51bt1 C n = seqU (u51_1 C) (u51bt2 C n) := rfl
theorem u51bt2_s (C : CU) (n : Nat) : u51bt2 C n = seqU (seqU (u51_2 C) (blockU 0 (loopU n (u51_11 C n)))) (u51bt3 C n) := rfl
theorem u51bt3_s (C : CU) (n : Nat) : u51bt3 C n = seqU (u51_12 C) (u51bt4 C n) := rfl
theorem u51bt4_s (C : CU) (n : Nat) : u51bt4 C n = seqU (seqU (u51_13 C) (blockU 2 (loopU n (u51_19 C n)))) (u51bt5 C n) := rfl
theorem u51bt5_s (C : CU) (n : Nat) : u51bt5 C n = seqU (u51_20 C) (retU) := rfl
def u52bt4 (C : CU) (n : Nat) : CdU W6 := seqU (u52_10 C) (retU)
def u52bt3 (C : CU) (n : Nat) : CdU W6 := seqU (u52_9 C) (u52bt4 C n)
def u52bt2 (C : CU) (n : Nat) : CdU W6 := seqU (seqU (u52_6 C) (condU u52_7 (u52_8 C) (skipU))) (u52bt3 C n)
def u52bt1 (C : CU) (n : Nat) : CdU W6 := seqU (seqU (u52_1 C) (condU u52_2 (seqU (u52_3 C) (seqU (u52_4 C) (seqU (u52_5 C) (retU)))) (skipU))) (u52bt2 C n)
theorem u52b_s (C : CU) (n : Nat) : u52b C n = seqU (u52_0 C) (u52bt1 C n) := rfl
theorem u52bt1_s (C : CU) (n : Nat) : u52bt1 C n = seqU (seqU (u52_1 C) (condU u52_2 (seqU (u52_3 C) (seqU (u52_4 C) (seqU (u52_5 C) (retU)))) (skipU))) (u52bt2 C n) := rfl
theorem u52bt2_s (C : CU) (n : Nat) : u52bt2 C n = seqU (seqU (u52_6 C) (condU u52_7 (u52_8 C) (skipU))) (u52bt3 C n) := rfl
theorem u52bt3_s (C : CU) (n : Nat) : u52bt3 C n = seqU (u52_9 C) (u52bt4 C n) := rfl
theorem u52bt4_s (C : CU) (n : Nat) : u52bt4 C n = seqU (u52_10 C) (retU) := rfl
def u53bt3 (C : CU) (n : Nat) : CdU W7 := seqU (u53_9 C) (retU)
def u53bt2 (C : CU) (n : Nat) : CdU W7 := seqU (seqU (u53_5 C) (seqU (u53_6 C) (condU u53_7 (seqU (u53_8 C) (retU)) (skipU)))) (u53bt3 C n)
def u53bt1 (C : CU) (n : Nat) : CdU W7 := seqU (seqU (u53_1 C) (seqU (u53_2 C) (condU u53_3 (seqU (u53_4 C) (retU)) (skipU)))) (u53bt2 C n)
theorem u53b_s (C : CU) (n : Nat) : u53b C n = seqU (u53_0 C) (u53bt1 C n) := rfl
theorem u53bt1_s (C : CU) (n : Nat) : u53bt1 C n = seqU (seqU (u53_1 C) (seqU (u53_2 C) (condU u53_3 (seqU (u53_4 C) (retU)) (skipU)))) (u53bt2 C n) := rfl
theorem u53bt2_s (C : CU) (n : Nat) : u53bt2 C n = seqU (seqU (u53_5 C) (seqU (u53_6 C) (condU u53_7 (seqU (u53_8 C) (retU)) (skipU)))) (u53bt3 C n) := rfl
theorem u53bt3_s (C : CU) (n : Nat) : u53bt3 C n = seqU (u53_9 C) (retU) := rfl
def u56bt2 (C : CU) (n : Nat) : CdU W3 := seqU (u56_4 C) (retU)
def u56bt1 (C : CU) (n : Nat) : CdU W3 := seqU (seqU (u56_1 C) (condU u56_2 (seqU (u56_3 C) (retU)) (skipU))) (u56bt2 C n)
theorem u56b_s (C : CU) (n : Nat) : u56b C n = seqU (u56_0 C) (u56bt1 C n) := rfl
theorem u56bt1_s (C : CU) (n : Nat) : u56bt1 C n = seqU (seqU (u56_1 C) (condU u56_2 (seqU (u56_3 C) (retU)) (skipU))) (u56bt2 C n) := rfl
theorem u56bt2_s (C : CU) (n : Nat) : u56bt2 C n = seqU (u56_4 C) (retU) := rfl
def u57bt1 (C : CU) (n : Nat) : CdU W4 := seqU (u57_1 C) (u57_2 C)
theorem u57b_s (C : CU) (n : Nat) : u57b C n = seqU (u57_0 C) (u57bt1 C n) := rfl
theorem u57bt1_s (C : CU) (n : Nat) : u57bt1 C n = seqU (u57_1 C) (u57_2 C) := rfl
def u64bt2 (C : CU) (n : Nat) : CdU W3 := seqU (u64_4 C) (retU)
def u64bt1 (C : CU) (n : Nat) : CdU W3 := seqU (seqU (u64_1 C) (condU u64_2 (seqU (u64_3 C) (retU)) (skipU))) (u64bt2 C n)
theorem u64b_s (C : CU) (n : Nat) : u64b C n = seqU (u64_0 C) (u64bt1 C n) := rfl
theorem u64bt1_s (C : CU) (n : Nat) : u64bt1 C n = seqU (seqU (u64_1 C) (condU u64_2 (seqU (u64_3 C) (retU)) (skipU))) (u64bt2 C n) := rfl
theorem u64bt2_s (C : CU) (n : Nat) : u64bt2 C n = seqU (u64_4 C) (retU) := rfl
def u81bt3 (C : CU) (n : Nat) : CdU W5 := seqU (u81_8 C) (retU)
def u81bt2 (C : CU) (n : Nat) : CdU W5 := seqU (seqU (u81_4 C) (seqU (u81_5 C) (condU u81_6 (u81_7 C) (skipU)))) (u81bt3 C n)
def u81bt1 (C : CU) (n : Nat) : CdU W5 := seqU (seqU (u81_1 C) (condU u81_2 (u81_3 C) (skipU))) (u81bt2 C n)
theorem u81b_s (C : CU) (n : Nat) : u81b C n = seqU (u81_0 C) (u81bt1 C n) := rfl
theorem u81bt1_s (C : CU) (n : Nat) : u81bt1 C n = seqU (seqU (u81_1 C) (condU u81_2 (u81_3 C) (skipU))) (u81bt2 C n) := rfl
theorem u81bt2_s (C : CU) (n : Nat) : u81bt2 C n = seqU (seqU (u81_4 C) (seqU (u81_5 C) (condU u81_6 (u81_7 C) (skipU)))) (u81bt3 C n) := rfl
theorem u81bt3_s (C : CU) (n : Nat) : u81bt3 C n = seqU (u81_8 C) (retU) := rfl
end
theorem u4_in (C : CU) (n : Nat) (p0 p1 p2 p3 : FV) (F : FAW) : u4 C n [p0, p1, p2, p3] F = u4b C n (.mk p0 p1 p2 p3 (.u []) (.u []) (.u []) (.u []) (.u []) (.u []) (.u []) (.u []) (.u []) (.u []) (.u []) (.u [])) F fun o v F => exU o (u4r v F) (fun _ => .no) (u4r v F) := rfl
theorem u4r_mk (a c d e f g h i j k l m o p q r : FV) (S : FAW) : u4r (.mk a c d e f g h i j k l m o p q r ) S = .ok f S := rfl
theorem cl4 (n : Nat) (args : List FV) (F : FAW) : clU dskD (n + 1) 4 args F = u4 (clU dskD n) n args F := clU_get (fun k => by kernel_rfl) n args F
theorem u5_in (C : CU) (n : Nat) (p0 p1 p2 p3 : FV) (F : FAW) : u5 C n [p0, p1, p2, p3] F = u5b C n (.mk p0 p1 p2 p3 (.u []) (.u []) (.u []) (.u []) (.u []) (.u []) (.u []) (.u []) (.u []) (.u []) (.u []) (.u []) (.u []) (.u [])) F fun o v F => exU o (u5r v F) (fun _ => .no) (u5r v F) := rfl
theorem u5r_mk (a c d e f g h i j k l m o p q r s t : FV) (S : FAW) : u5r (.mk a c d e f g h i j k l m o p q r s t ) S = .ok f S := rfl
theorem cl5 (n : Nat) (args : List FV) (F : FAW) : clU dskD (n + 1) 5 args F = u5 (clU dskD n) n args F := clU_get (fun k => by kernel_rfl) n args F
theorem u6_in (C : CU) (n : Nat) (p0 p1 : FV) (F : FAW) : u6 C n [p0, p1] F = u6b C n (.mk p0 p1 (.u []) (.u []) (.u []) (.u []) (.u []) (.u []) (.u []) (.u []) (.u []) (.u []) (.u []) (.u []) (.u []) (.u []) (.u [])) F fun o v F => exU o (u6r v F) (fun _ => .no) (u6r v F) := rfl
theorem u6r_mk (a c d e f g h i j k l m o p q r s : FV) (S : FAW) : u6r (.mk a c d e f g h i j k l m o p q r s ) S = .ok d S := rfl
theorem cl6 (n : Nat) (args : List FV) (F : FAW) : clU dskD (n + 1) 6 args F = u6 (clU dskD n) n args F := clU_get (fun k => by kernel_rfl) n args F
theorem u14_in (C : CU) (n : Nat) (F : FAW) : u14 C n [] F = u14b C n (.mk (.u []) (.u []) (.u []) (.u []) (.u []) (.u []) (.u []) (.u [])) F fun o v F => exU o (u14r v F) (fun _ => .no) (u14r v F) := rfl
theorem u14r_mk (a c d e f g h i : FV) (S : FAW) : u14r (.mk a c d e f g h i ) S = .ok a S := rfl
theorem cl14 (n : Nat) (args : List FV) (F : FAW) : clU dskD (n + 1) 14 args F = u14 (clU dskD n) n args F := clU_get (fun k => by kernel_rfl) n args F
theorem u15_in (C : CU) (n : Nat) (p0 : FV) (F : FAW) : u15 C n [p0] F = u15b C n (.mk p0 (.u [])) F fun o v F => exU o (u15r v F) (fun _ => .no) (u15r v F) := rfl
theorem u15r_mk (a c : FV) (S : FAW) : u15r (.mk a c ) S = .ok c S := rfl
theorem cl15 (n : Nat) (args : List FV) (F : FAW) : clU dskD (n + 1) 15 args F = u15 (clU dskD n) n args F := clU_get (fun k => by kernel_rfl) n args F
theorem u16_in (C : CU) (n : Nat) (p0 p1 p2 : FV) (F : FAW) : u16 C n [p0, p1, p2] F = u16b C n (.mk p0 p1 p2 (.u [])) F fun o v F => exU o (u16r v F) (fun _ => .no) (u16r v F) := rfl
theorem u16r_mk (a c d e : FV) (S : FAW) : u16r (.mk a c d e ) S = .ok (.u []) S := rfl
theorem cl16 (n : Nat) (args : List FV) (F : FAW) : clU dskD (n + 1) 16 args F = u16 (clU dskD n) n args F := clU_get (fun k => by kernel_rfl) n args F
theorem u17_in (C : CU) (n : Nat) (p0 p1 p2 : FV) (F : FAW) : u17 C n [p0, p1, p2] F = u17b C n (.mk p0 p1 p2 (.u []) (.u []) (.u []) (.u []) (.u []) (.u []) (.u []) (.u [])) F fun o v F => exU o (u17r v F) (fun _ => .no) (u17r v F) := rfl
theorem u17r_mk (a c d e f g h i j k l : FV) (S : FAW) : u17r (.mk a c d e f g h i j k l ) S = .ok h S := rfl
theorem cl17 (n : Nat) (args : List FV) (F : FAW) : clU dskD (n + 1) 17 args F = u17 (clU dskD n) n args F := clU_get (fun k => by kernel_rfl) n args F
theorem u18_in (C : CU) (n : Nat) (p0 p1 : FV) (F : FAW) : u18 C n [p0, p1] F = u18b C n (.mk p0 p1 (.u []) (.u []) (.u []) (.u []) (.u [])) F fun o v F => exU o (u18r v F) (fun _ => .no) (u18r v F) := rfl
theorem u18r_mk (a c d e f g h : FV) (S : FAW) : u18r (.mk a c d e f g h ) S = .ok f S := rfl
theorem cl18 (n : Nat) (args : List FV) (F : FAW) : clU dskD (n + 1) 18 args F = u18 (clU dskD n) n args F := clU_get (fun k => by kernel_rfl) n args F
theorem u20_in (C : CU) (n : Nat) (p0 p1 : FV) (F : FAW) : u20 C n [p0, p1] F = u20b C n (.mk p0 p1 (.u []) (.u []) (.u []) (.u [])) F fun o v F => exU o (u20r v F) (fun _ => .no) (u20r v F) := rfl
theorem u20r_mk (a c d e f g : FV) (S : FAW) : u20r (.mk a c d e f g ) S = .ok (.u [d, e]) S := rfl
theorem cl20 (n : Nat) (args : List FV) (F : FAW) : clU dskD (n + 1) 20 args F = u20 (clU dskD n) n args F := clU_get (fun k => by kernel_rfl) n args F
theorem u21_in (C : CU) (n : Nat) (p0 p1 p2 : FV) (F : FAW) : u21 C n [p0, p1, p2] F = u21b C n (.mk p0 p1 p2 (.u []) (.u []) (.u []) (.u []) (.u []) (.u [])) F fun o v F => exU o (u21r v F) (fun _ => .no) (u21r v F) := rfl
theorem u21r_mk (a c d e f g h i j : FV) (S : FAW) : u21r (.mk a c d e f g h i j ) S = .ok h S := rfl
theorem cl21 (n : Nat) (args : List FV) (F : FAW) : clU dskD (n + 1) 21 args F = u21 (clU dskD n) n args F := clU_get (fun k => by kernel_rfl) n args F
theorem u25_in (C : CU) (n : Nat) (p0 : FV) (F : FAW) : u25 C n [p0] F = u25b C n (.mk p0 (.u [])) F fun o v F => exU o (u25r v F) (fun _ => .no) (u25r v F) := rfl
theorem u25r_mk (a c : FV) (S : FAW) : u25r (.mk a c ) S = .ok c S := rfl
theorem cl25 (n : Nat) (args : List FV) (F : FAW) : clU dskD (n + 1) 25 args F = u25 (clU dskD n) n args F := clU_get (fun k => by kernel_rfl) n args F
theorem u26_in (C : CU) (n : Nat) (p0 p1 : FV) (F : FAW) : u26 C n [p0, p1] F = u26b C n (.mk p0 p1 (.u []) (.u []) (.u []) (.u []) (.u [])) F fun o v F => exU o (u26r v F) (fun _ => .no) (u26r v F) := rfl
theorem u26r_mk (a c d e f g h : FV) (S : FAW) : u26r (.mk a c d e f g h ) S = .ok f S := rfl
theorem cl26 (n : Nat) (args : List FV) (F : FAW) : clU dskD (n + 1) 26 args F = u26 (clU dskD n) n args F := clU_get (fun k => by kernel_rfl) n args F
theorem u27_in (C : CU) (n : Nat) (p0 : FV) (F : FAW) : u27 C n [p0] F = u27b C n (.mk p0 (.u [])) F fun o v F => exU o (u27r v F) (fun _ => .no) (u27r v F) := rfl
theorem u27r_mk (a c : FV) (S : FAW) : u27r (.mk a c ) S = .ok c S := rfl
theorem cl27 (n : Nat) (args : List FV) (F : FAW) : clU dskD (n + 1) 27 args F = u27 (clU dskD n) n args F := clU_get (fun k => by kernel_rfl) n args F
theorem u28_in (C : CU) (n : Nat) (p0 : FV) (F : FAW) : u28 C n [p0] F = u28b C n (.mk p0 (.u []) (.u []) (.u [])) F fun o v F => exU o (u28r v F) (fun _ => .no) (u28r v F) := rfl
theorem u28r_mk (a c d e : FV) (S : FAW) : u28r (.mk a c d e ) S = .ok c S := rfl
theorem cl28 (n : Nat) (args : List FV) (F : FAW) : clU dskD (n + 1) 28 args F = u28 (clU dskD n) n args F := clU_get (fun k => by kernel_rfl) n args F
theorem u49_in (C : CU) (n : Nat) (p0 : FV) (F : FAW) : u49 C n [p0] F = u49b C n (.mk p0 (.u []) (.u []) (.u [])) F fun o v F => exU o (u49r v F) (fun _ => .no) (u49r v F) := rfl
theorem u49r_mk (a c d e : FV) (S : FAW) : u49r (.mk a c d e ) S = .ok c S := rfl
theorem cl49 (n : Nat) (args : List FV) (F : FAW) : clU dskD (n + 1) 49 args F = u49 (clU dskD n) n args F := clU_get (fun k => by kernel_rfl) n args F
theorem u50_in (C : CU) (n : Nat) (p0 p1 p2 : FV) (F : FAW) : u50 C n [p0, p1, p2] F = u50b C n (.mk p0 p1 p2 (.u [])) F fun o v F => exU o (u50r v F) (fun _ => .no) (u50r v F) := rfl
theorem u50r_mk (a c d e : FV) (S : FAW) : u50r (.mk a c d e ) S = .ok (.u []) S := rfl
theorem cl50 (n : Nat) (args : List FV) (F : FAW) : clU dskD (n + 1) 50 args F = u50 (clU dskD n) n args F := clU_get (fun k => by kernel_rfl) n args F
theorem u51_in (C : CU) (n : Nat) (p0 : FV) (F : FAW) : u51 C n [p0] F = u51b C n (.mk p0 (.u []) (.u []) (.u []) (.u []) (.u []) (.u []) (.u []) (.u []) (.u []) (.u []) (.u []) (.u []) (.u []) (.u [])) F fun o v F => exU o (u51r v F) (fun _ => .no) (u51r v F) := rfl
theorem u51r_mk (a c d e f g h i j k l m o p q : FV) (S : FAW) : u51r (.mk a c d e f g h i j k l m o p q ) S = .ok c S := rfl
theorem cl51 (n : Nat) (args : List FV) (F : FAW) : clU dskD (n + 1) 51 args F = u51 (clU dskD n) n args F := clU_get (fun k => by kernel_rfl) n args F
theorem u52_in (C : CU) (n : Nat) (p0 p1 p2 : FV) (F : FAW) : u52 C n [p0, p1, p2] F = u52b C n (.mk p0 p1 p2 (.u []) (.u []) (.u [])) F fun o v F => exU o (u52r v F) (fun _ => .no) (u52r v F) := rfl
theorem u52r_mk (a c d e f g : FV) (S : FAW) : u52r (.mk a c d e f g ) S = .ok e S := rfl
theorem cl52 (n : Nat) (args : List FV) (F : FAW) : clU dskD (n + 1) 52 args F = u52 (clU dskD n) n args F := clU_get (fun k => by kernel_rfl) n args F
theorem u53_in (C : CU) (n : Nat) (p0 p1 : FV) (F : FAW) : u53 C n [p0, p1] F = u53b C n (.mk p0 p1 (.u []) (.u []) (.u []) (.u []) (.u [])) F fun o v F => exU o (u53r v F) (fun _ => .no) (u53r v F) := rfl
theorem u53r_mk (a c d e f g h : FV) (S : FAW) : u53r (.mk a c d e f g h ) S = .ok d S := rfl
theorem cl53 (n : Nat) (args : List FV) (F : FAW) : clU dskD (n + 1) 53 args F = u53 (clU dskD n) n args F := clU_get (fun k => by kernel_rfl) n args F
theorem u54_in (C : CU) (n : Nat) (p0 p1 : FV) (F : FAW) : u54 C n [p0, p1] F = u54b C n (.mk p0 p1 (.u [])) F fun o v F => exU o (u54r v F) (fun _ => .no) (u54r v F) := rfl
theorem u54r_mk (a c d : FV) (S : FAW) : u54r (.mk a c d ) S = .ok (.u []) S := rfl
theorem cl54 (n : Nat) (args : List FV) (F : FAW) : clU dskD (n + 1) 54 args F = u54 (clU dskD n) n args F := clU_get (fun k => by kernel_rfl) n args F
theorem u55_in (C : CU) (n : Nat) (F : FAW) : u55 C n [] F = u55b C n (.mk) F fun o v F => exU o (u55r v F) (fun _ => .no) (u55r v F) := rfl
theorem u55r_mk (S : FAW) : u55r (.mk ) S = .ok (.u []) S := rfl
theorem cl55 (n : Nat) (args : List FV) (F : FAW) : clU dskD (n + 1) 55 args F = u55 (clU dskD n) n args F := clU_get (fun k => by kernel_rfl) n args F
theorem u56_in (C : CU) (n : Nat) (p0 : FV) (F : FAW) : u56 C n [p0] F = u56b C n (.mk p0 (.u []) (.u [])) F fun o v F => exU o (u56r v F) (fun _ => .no) (u56r v F) := rfl
theorem u56r_mk (a c d : FV) (S : FAW) : u56r (.mk a c d ) S = .ok c S := rfl
theorem cl56 (n : Nat) (args : List FV) (F : FAW) : clU dskD (n + 1) 56 args F = u56 (clU dskD n) n args F := clU_get (fun k => by kernel_rfl) n args F
theorem u57_in (C : CU) (n : Nat) (p0 p1 p2 : FV) (F : FAW) : u57 C n [p0, p1, p2] F = u57b C n (.mk p0 p1 p2 (.u [])) F fun o v F => exU o (u57r v F) (fun _ => .no) (u57r v F) := rfl
theorem u57r_mk (a c d e : FV) (S : FAW) : u57r (.mk a c d e ) S = .ok (.u []) S := rfl
theorem cl57 (n : Nat) (args : List FV) (F : FAW) : clU dskD (n + 1) 57 args F = u57 (clU dskD n) n args F := clU_get (fun k => by kernel_rfl) n args F
theorem u58_in (C : CU) (n : Nat) (F : FAW) : u58 C n [] F = u58b C n (.mk) F fun o v F => exU o (u58r v F) (fun _ => .no) (u58r v F) := rfl
theorem u58r_mk (S : FAW) : u58r (.mk ) S = .ok (.u []) S := rfl
theorem cl58 (n : Nat) (args : List FV) (F : FAW) : clU dskD (n + 1) 58 args F = u58 (clU dskD n) n args F := clU_get (fun k => by kernel_rfl) n args F
theorem u62_in (C : CU) (n : Nat) (p0 p1 : FV) (F : FAW) : u62 C n [p0, p1] F = u62b C n (.mk p0 p1) F fun o v F => exU o (u62r v F) (fun _ => .no) (u62r v F) := rfl
theorem u62r_mk (a c : FV) (S : FAW) : u62r (.mk a c ) S = .ok (.u []) S := rfl
theorem cl62 (n : Nat) (args : List FV) (F : FAW) : clU dskD (n + 1) 62 args F = u62 (clU dskD n) n args F := clU_get (fun k => by kernel_rfl) n args F
theorem u63_in (C : CU) (n : Nat) (F : FAW) : u63 C n [] F = u63b C n (.mk) F fun o v F => exU o (u63r v F) (fun _ => .no) (u63r v F) := rfl
theorem u63r_mk (S : FAW) : u63r (.mk ) S = .ok (.u []) S := rfl
theorem cl63 (n : Nat) (args : List FV) (F : FAW) : clU dskD (n + 1) 63 args F = u63 (clU dskD n) n args F := clU_get (fun k => by kernel_rfl) n args F
theorem u64_in (C : CU) (n : Nat) (p0 : FV) (F : FAW) : u64 C n [p0] F = u64b C n (.mk p0 (.u []) (.u [])) F fun o v F => exU o (u64r v F) (fun _ => .no) (u64r v F) := rfl
theorem u64r_mk (a c d : FV) (S : FAW) : u64r (.mk a c d ) S = .ok c S := rfl
theorem cl64 (n : Nat) (args : List FV) (F : FAW) : clU dskD (n + 1) 64 args F = u64 (clU dskD n) n args F := clU_get (fun k => by kernel_rfl) n args F
theorem u81_in (C : CU) (n : Nat) (p0 p1 : FV) (F : FAW) : u81 C n [p0, p1] F = u81b C n (.mk p0 p1 (.u []) (.u []) (.u [])) F fun o v F => exU o (u81r v F) (fun _ => .no) (u81r v F) := rfl
theorem u81r_mk (a c d e f : FV) (S : FAW) : u81r (.mk a c d e f ) S = .ok d S := rfl
-- NONE 85 maps.clone
theorem cl81 (n : Nat) (args : List FV) (F : FAW) : clU dskD (n + 1) 81 args F = u81 (clU dskD n) n args F := clU_get (fun k => by kernel_rfl) n args F
theorem cl23 (n : Nat) (args : List FV) (F : FAW) : clU dskD (n + 1) 23 args F = u23 (clU dskD n) n args F := clU_get (fun k => by kernel_rfl) n args F
theorem cl22 (n : Nat) (args : List FV) (F : FAW) : clU dskD (n + 1) 22 args F = u22 (clU dskD n) n args F := clU_get (fun k => by kernel_rfl) n args F
theorem cl19 (n : Nat) (args : List FV) (F : FAW) : clU dskD (n + 1) 19 args F = u19 (clU dskD n) n args F := clU_get (fun k => by kernel_rfl) n args F
theorem cl24 (n : Nat) (args : List FV) (F : FAW) : clU dskD (n + 1) 24 args F = u24 (clU dskD n) n args F := clU_get (fun k => by kernel_rfl) n args F
end Go.Proofs.Ythclmjelknibhaa.Ev
