/- The texts do what the trees do; the table of all functions. -/
import Derived.Test.YthclmjelknibhaaDskT
import Derived.KernelRfl
namespace Go.Proofs.Ythclmjelknibhaa.Ev
open Go Go.RowKit
set_option linter.unusedVariables false
set_option linter.constructorNameAsVariable false
theorem o4 : OkU dskE dskX 4 u4 ∧ IsX Try.prog 4 f4 := okU_prog (P := Try.prog) (K := [0, 1, 2, 3, 8, 9, 10, 12, 13, 14, 15, 17, 25, 41, 42, 45]) (nx := 46) (T := fu16 0 1 2 3 8 9 10 12 13 14 15 17 25 41 42 45) (by kernel_rfl) (by kernel_rfl) ⟨by kernel_rfl, by kernel_rfl⟩
theorem o5 : OkU dskE dskX 5 u5 ∧ IsX Try.prog 5 f5 := okU_prog (P := Try.prog) (K := [0, 1, 2, 3, 8, 9, 10, 11, 12, 13, 14, 16, 17, 19, 27, 43, 49, 75]) (nx := 76) (T := fu18 0 1 2 3 8 9 10 11 12 13 14 16 17 19 27 43 49 75) (by kernel_rfl) (by kernel_rfl) ⟨by kernel_rfl, by kernel_rfl⟩
theorem o6 : OkU dskE dskX 6 u6 ∧ IsX Try.prog 6 f6 := okU_prog (P := Try.prog) (K := [0, 1, 4, 5, 6, 7, 8, 9, 10, 12, 14, 17, 26, 47, 49, 51, 58]) (nx := 59) (T := fu17 0 1 4 5 6 7 8 9 10 12 14 17 26 47 49 51 58) (by kernel_rfl) (by kernel_rfl) ⟨by kernel_rfl, by kernel_rfl⟩
theorem o14 : OkU dskE dskX 14 u14 ∧ IsX Try.prog 14 f14 := okU_prog (P := Try.prog) (K := [0, 1, 2, 3, 4, 5, 6, 15]) (nx := 16) (T := fu8 0 1 2 3 4 5 6 15) (by kernel_rfl) (by kernel_rfl) ⟨by kernel_rfl, by kernel_rfl⟩
theorem o15 : OkU dskE dskX 15 u15 ∧ IsX Try.prog 15 f15 := okU_prog (P := Try.prog) (K := [0, 2]) (nx := 3) (T := fu2 0 2) (by kernel_rfl) (by kernel_rfl) ⟨by kernel_rfl, by kernel_rfl⟩
theorem o16 : OkU dskE dskX 16 u16 ∧ IsX Try.prog 16 f16 := okU_prog (P := Try.prog) (K := [0, 1, 2, 7]) (nx := 8) (T := fu4 0 1 2 7) (by kernel_rfl) (by kernel_rfl) ⟨by kernel_rfl, by kernel_rfl⟩
theorem o17 : OkU dskE dskX 17 u17 ∧ IsX Try.prog 17 f17 := okU_prog (P := Try.prog) (K := [0, 1, 2, 3, 4, 5, 6, 7, 8, 12, 18]) (nx := 19) (T := fu11 0 1 2 3 4 5 6 7 8 12 18) (by kernel_rfl) (by kernel_rfl) ⟨by kernel_rfl, by kernel_rfl⟩
theorem o18 : OkU dskE dskX 18 u18 ∧ IsX Try.prog 18 f18 := okU_prog (P := Try.prog) (K := [0, 1, 2, 3, 4, 5, 10]) (nx := 11) (T := fu7 0 1 2 3 4 5 10) (by kernel_rfl) (by kernel_rfl) ⟨by kernel_rfl, by kernel_rfl⟩
theorem o20 : OkU dskE dskX 20 u20 ∧ IsX Try.prog 20 f20 := okU_prog (P := Try.prog) (K := [0, 1, 4, 5, 6, 11]) (nx := 12) (T := fu6 0 1 4 5 6 11) (by kernel_rfl) (by kernel_rfl) ⟨by kernel_rfl, by kernel_rfl⟩
theorem o21 : OkU dskE dskX 21 u21 ∧ IsX Try.prog 21 f21 := okU_prog (P := Try.prog) (K := [0, 1, 2, 3, 4, 5, 6, 7, 12]) (nx := 13) (T := fu9 0 1 2 3 4 5 6 7 12) (by kernel_rfl) (by kernel_rfl) ⟨by kernel_rfl, by kernel_rfl⟩
theorem o25 : OkU dskE dskX 25 u25 ∧ IsX Try.prog 25 f25 := okU_prog (P := Try.prog) (K := [0, 2]) (nx := 3) (T := fu2 0 2) (by kernel_rfl) (by kernel_rfl) ⟨by kernel_rfl, by kernel_rfl⟩
theorem o26 : OkU dskE dskX 26 u26 ∧ IsX Try.prog 26 f26 := okU_prog (P := Try.prog) (K := [0, 1, 2, 3, 4, 5, 10]) (nx := 11) (T := fu7 0 1 2 3 4 5 10) (by kernel_rfl) (by kernel_rfl) ⟨by kernel_rfl, by kernel_rfl⟩
theorem o27 : OkU dskE dskX 27 u27 ∧ IsX Try.prog 27 f27 := okU_prog (P := Try.prog) (K := [0, 2]) (nx := 3) (T := fu2 0 2) (by kernel_rfl) (by kernel_rfl) ⟨by kernel_rfl, by kernel_rfl⟩
theorem o28 : OkU dskE dskX 28 u28 ∧ IsX Try.prog 28 f28 := okU_prog (P := Try.prog) (K := [0, 2, 3, 5]) (nx := 6) (T := fu4 0 2 3 5) (by kernel_rfl) (by kernel_rfl) ⟨by kernel_rfl, by kernel_rfl⟩
theorem o49 : OkU dskE dskX 49 u49 ∧ IsX Try.prog 49 f49 := okU_prog (P := Try.prog) (K := [0, 2, 3, 6]) (nx := 7) (T := fu4 0 2 3 6) (by kernel_rfl) (by kernel_rfl) ⟨by kernel_rfl, by kernel_rfl⟩
theorem o50 : OkU dskE dskX 50 u50 ∧ IsX Try.prog 50 f50 := okU_prog (P := Try.prog) (K := [0, 1, 2, 3]) (nx := 4) (T := fu4 0 1 2 3) (by kernel_rfl) (by kernel_rfl) ⟨by kernel_rfl, by kernel_rfl⟩
theorem o51 : OkU dskE dskX 51 u51 ∧ IsX Try.prog 51 f51 := okU_prog (P := Try.prog) (K := [0, 2, 3, 5, 6, 8, 9, 10, 11, 12, 20, 25, 26, 27, 28]) (nx := 29) (T := fu15 0 2 3 5 6 8 9 10 11 12 20 25 26 27 28) (by kernel_rfl) (by kernel_rfl) ⟨by kernel_rfl, by kernel_rfl⟩
theorem o52 : OkU dskE dskX 52 u52 ∧ IsX Try.prog 52 f52 := okU_prog (P := Try.prog) (K := [0, 1, 2, 6, 17, 29]) (nx := 30) (T := fu6 0 1 2 6 17 29) (by kernel_rfl) (by kernel_rfl) ⟨by kernel_rfl, by kernel_rfl⟩
theorem o53 : OkU dskE dskX 53 u53 ∧ IsX Try.prog 53 f53 := okU_prog (P := Try.prog) (K := [0, 1, 4, 5, 7, 11, 23]) (nx := 24) (T := fu7 0 1 4 5 7 11 23) (by kernel_rfl) (by kernel_rfl) ⟨by kernel_rfl, by kernel_rfl⟩
theorem o54 : OkU dskE dskX 54 u54 ∧ IsX Try.prog 54 f54 := okU_prog (P := Try.prog) (K := [0, 1, 2]) (nx := 3) (T := fu3 0 1 2) (by kernel_rfl) (by kernel_rfl) ⟨by kernel_rfl, by kernel_rfl⟩
theorem o55 : OkU dskE dskX 55 u55 ∧ IsX Try.prog 55 f55 := okU_prog (P := Try.prog) (K := []) (nx := 0) (T := fu0) (by kernel_rfl) (by kernel_rfl) ⟨by kernel_rfl, by kernel_rfl⟩
theorem o56 : OkU dskE dskX 56 u56 ∧ IsX Try.prog 56 f56 := okU_prog (P := Try.prog) (K := [0, 2, 4]) (nx := 5) (T := fu3 0 2 4) (by kernel_rfl) (by kernel_rfl) ⟨by kernel_rfl, by kernel_rfl⟩
theorem o57 : OkU dskE dskX 57 u57 ∧ IsX Try.prog 57 f57 := okU_prog (P := Try.prog) (K := [0, 1, 2, 3]) (nx := 4) (T := fu4 0 1 2 3) (by kernel_rfl) (by kernel_rfl) ⟨by kernel_rfl, by kernel_rfl⟩
theorem o58 : OkU dskE dskX 58 u58 ∧ IsX Try.prog 58 f58 := okU_prog (P := Try.prog) (K := []) (nx := 0) (T := fu0) (by kernel_rfl) (by kernel_rfl) ⟨by kernel_rfl, by kernel_rfl⟩
theorem o62 : OkU dskE dskX 62 u62 ∧ IsX Try.prog 62 f62 := okU_prog (P := Try.prog) (K := [0, 1]) (nx := 2) (T := fu2 0 1) (by kernel_rfl) (by kernel_rfl) ⟨by kernel_rfl, by kernel_rfl⟩
theorem o63 : OkU dskE dskX 63 u63 ∧ IsX Try.prog 63 f63 := okU_prog (P := Try.prog) (K := []) (nx := 0) (T := fu0) (by kernel_rfl) (by kernel_rfl) ⟨by kernel_rfl, by kernel_rfl⟩
theorem o64 : OkU dskE dskX 64 u64 ∧ IsX Try.prog 64 f64 := okU_prog (P := Try.prog) (K := [0, 2, 4]) (nx := 5) (T := fu3 0 2 4) (by kernel_rfl) (by kernel_rfl) ⟨by kernel_rfl, by kernel_rfl⟩
theorem o81 : OkU dskE dskX 81 u81 ∧ IsX Try.prog 81 f81 := okU_prog (P := Try.prog) (K := [0, 1, 4, 6, 16]) (nx := 17) (T := fu5 0 1 4 6 16) (by kernel_rfl) (by kernel_rfl) ⟨by kernel_rfl, by kernel_rfl⟩
theorem dsk_all : ∀ p ∈ dskL, IsX Try.prog p.1 p.2 :=
  isx_cons o4.2 ( isx_cons o5.2 ( isx_cons o6.2 ( isx_cons o14.2 ( isx_cons o15.2 ( isx_cons o16.2 ( isx_cons o17.2 ( isx_cons o18.2 ( isx_cons o20.2 ( isx_cons o21.2 ( isx_cons o25.2 ( isx_cons o26.2 ( isx_cons o27.2 ( isx_cons o28.2 ( isx_cons o49.2 ( isx_cons o50.2 ( isx_cons o51.2 ( isx_cons o52.2 ( isx_cons o53.2 ( isx_cons o54.2 ( isx_cons o55.2 ( isx_cons o56.2 ( isx_cons o57.2 ( isx_cons o58.2 ( isx_cons o62.2 ( isx_cons o63.2 ( isx_cons o64.2 ( isx_cons o81.2 (fun _ h => nomatch h))))))))))))))))))))))))))))
theorem dsk_is (f : FuncId) (xf : XFunc) (h : dskE f = some xf) : IsX Try.prog f xf := by
  unfold dskE at h
  exact dsk_all (f, xf) (look_mem (l := dskL) h)
noncomputable def u23 : Fu := uLeft
theorem o23 : OkU dskE dskX 23 u23 := okU_left (by kernel_rfl) (fun _ _ => rfl)
noncomputable def u22 : Fu := uCrash
theorem o22 : OkU dskE dskX 22 u22 := okU_crash (by kernel_rfl) (fun _ _ => rfl)
noncomputable def u19 : Fu := uPower
theorem o19 : OkU dskE dskX 19 u19 := okU_power (by kernel_rfl) (fun _ _ => rfl)
noncomputable def u24 : Fu := uNames
theorem o24 : OkU dskE dskX 24 u24 := okU_names (by kernel_rfl) (fun _ _ => rfl)
noncomputable def dskD : DU := (.node 27 (.node 19 (.node 15 (.node 6 (.node 5 (.leaf 4 u4 false) (.leaf 5 u5 false)) (.node 14 (.leaf 6 u6 false) (.leaf 14 u14 false))) (.node 17 (.node 16 (.leaf 15 u15 false) (.leaf 16 u16 false)) (.node 18 (.leaf 17 u17 false) (.leaf 18 u18 false)))) (.node 23 (.node 21 (.node 20 (.leaf 19 u19 false) (.leaf 20 u20 false)) (.node 22 (.leaf 21 u21 false) (.leaf 22 u22 false))) (.node 25 (.node 24 (.leaf 23 u23 false) (.leaf 24 u24 false)) (.node 26 (.leaf 25 u25 false) (.leaf 26 u26 false))))) (.node 55 (.node 51 (.node 49 (.node 28 (.leaf 27 u27 false) (.leaf 28 u28 false)) (.node 50 (.leaf 49 u49 false) (.leaf 50 u50 false))) (.node 53 (.node 52 (.leaf 51 u51 false) (.leaf 52 u52 false)) (.node 54 (.leaf 53 u53 false) (.leaf 54 u54 false)))) (.node 62 (.node 57 (.node 56 (.leaf 55 u55 false) (.leaf 56 u56 false)) (.node 58 (.leaf 57 u57 false) (.leaf 58 u58 false))) (.node 64 (.node 63 (.leaf 62 u62 false) (.leaf 63 u63 false)) (.node 81 (.leaf 64 u64 false) (.leaf 81 u81 false))))))
theorem dskD_ok : DU.Ok dskE dskX dskD := (.node (.node (.node (.node (.node (.leaf o4.1) (.leaf o5.1)) (.node (.leaf o6.1) (.leaf o14.1))) (.node (.node (.leaf o15.1) (.leaf o16.1)) (.node (.leaf o17.1) (.leaf o18.1)))) (.node (.node (.node (.leaf o19) (.leaf o20.1)) (.node (.leaf o21.1) (.leaf o22))) (.node (.node (.leaf o23) (.leaf o24)) (.node (.leaf o25.1) (.leaf o26.1))))) (.node (.node (.node (.node (.leaf o27.1) (.leaf o28.1)) (.node (.leaf o49.1) (.leaf o50.1))) (.node (.node (.leaf o51.1) (.leaf o52.1)) (.node (.leaf o53.1) (.leaf o54.1)))) (.node (.node (.node (.leaf o55.1) (.leaf o56.1)) (.node (.leaf o57.1) (.leaf o58.1))) (.node (.node (.leaf o62.1) (.leaf o63.1)) (.node (.leaf o64.1) (.leaf o81.1))))))
end Go.Proofs.Ythclmjelknibhaa.Ev
