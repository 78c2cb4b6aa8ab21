/- Frames of so many slots. -/
import Derived.Test.YtkcafoogpbopiaaGreatDoorEvU8
namespace Go.Proofs.YtkcafoogpbopiaaGreatDoor.Ev
open Go Go.RowKit
set_option linter.unusedVariables false
noncomputable section
structure W1 where
  a0 : FV
def fu1 (t0 : Nat) : FU W1 where
  K := [t0]
  env := fun v => W1.rec (motive := fun _ => List (Nat × FV)) (fun a0 => [(t0, a0)]) v
  upd := fun l as v => W1.rec (motive := fun _ => W1) (fun a0 => W1.mk (updU l as t0 a0)) v
  ent := fun g => W1.mk (g t0)
  keys := fun _ => rfl
  law := fun _ _ _ => rfl
  start := fun _ => rfl
structure W2 where
  a0 : FV
  a1 : FV
def fu2 (t0 t1 : Nat) : FU W2 where
  K := [t0, t1]
  env := fun v => W2.rec (motive := fun _ => List (Nat × FV)) (fun a0 a1 => [(t0, a0), (t1, a1)]) v
  upd := fun l as v => W2.rec (motive := fun _ => W2) (fun a0 a1 => W2.mk (updU l as t0 a0) (updU l as t1 a1)) v
  ent := fun g => W2.mk (g t0) (g t1)
  keys := fun _ => rfl
  law := fun _ _ _ => rfl
  start := fun _ => rfl
structure W3 where
  a0 : FV
  a1 : FV
  a2 : FV
def fu3 (t0 t1 t2 : Nat) : FU W3 where
  K := [t0, t1, t2]
  env := fun v => W3.rec (motive := fun _ => List (Nat × FV)) (fun a0 a1 a2 => [(t0, a0), (t1, a1), (t2, a2)]) v
  upd := fun l as v => W3.rec (motive := fun _ => W3) (fun a0 a1 a2 => W3.mk (updU l as t0 a0) (updU l as t1 a1) (updU l as t2 a2)) v
  ent := fun g => W3.mk (g t0) (g t1) (g t2)
  keys := fun _ => rfl
  law := fun _ _ _ => rfl
  start := fun _ => rfl
structure W4 where
  a0 : FV
  a1 : FV
  a2 : FV
  a3 : FV
def fu4 (t0 t1 t2 t3 : Nat) : FU W4 where
  K := [t0, t1, t2, t3]
  env := fun v => W4.rec (motive := fun _ => List (Nat × FV)) (fun a0 a1 a2 a3 => [(t0, a0), (t1, a1), (t2, a2), (t3, a3)]) v
  upd := fun l as v => W4.rec (motive := fun _ => W4) (fun a0 a1 a2 a3 => W4.mk (updU l as t0 a0) (updU l as t1 a1) (updU l as t2 a2) (updU l as t3 a3)) v
  ent := fun g => W4.mk (g t0) (g t1) (g t2) (g t3)
  keys := fun _ => rfl
  law := fun _ _ _ => rfl
  start := fun _ => rfl
structure W5 where
  a0 : FV
  a1 : FV
  a2 : FV
  a3 : FV
  a4 : FV
def fu5 (t0 t1 t2 t3 t4 : Nat) : FU W5 where
  K := [t0, t1, t2, t3, t4]
  env := fun v => W5.rec (motive := fun _ => List (Nat × FV)) (fun a0 a1 a2 a3 a4 => [(t0, a0), (t1, a1), (t2, a2), (t3, a3), (t4, a4)]) v
  upd := fun l as v => W5.rec (motive := fun _ => W5) (fun a0 a1 a2 a3 a4 => W5.mk (updU l as t0 a0) (updU l as t1 a1) (updU l as t2 a2) (updU l as t3 a3) (updU l as t4 a4)) v
  ent := fun g => W5.mk (g t0) (g t1) (g t2) (g t3) (g t4)
  keys := fun _ => rfl
  law := fun _ _ _ => rfl
  start := fun _ => rfl
structure W6 where
  a0 : FV
  a1 : FV
  a2 : FV
  a3 : FV
  a4 : FV
  a5 : FV
def fu6 (t0 t1 t2 t3 t4 t5 : Nat) : FU W6 where
  K := [t0, t1, t2, t3, t4, t5]
  env := fun v => W6.rec (motive := fun _ => List (Nat × FV)) (fun a0 a1 a2 a3 a4 a5 => [(t0, a0), (t1, a1), (t2, a2), (t3, a3), (t4, a4), (t5, a5)]) v
  upd := fun l as v => W6.rec (motive := fun _ => W6) (fun a0 a1 a2 a3 a4 a5 => W6.mk (updU l as t0 a0) (updU l as t1 a1) (updU l as t2 a2) (updU l as t3 a3) (updU l as t4 a4) (updU l as t5 a5)) v
  ent := fun g => W6.mk (g t0) (g t1) (g t2) (g t3) (g t4) (g t5)
  keys := fun _ => rfl
  law := fun _ _ _ => rfl
  start := fun _ => rfl
structure W7 where
  a0 : FV
  a1 : FV
  a2 : FV
  a3 : FV
  a4 : FV
  a5 : FV
  a6 : FV
def fu7 (t0 t1 t2 t3 t4 t5 t6 : Nat) : FU W7 where
  K := [t0, t1, t2, t3, t4, t5, t6]
  env := fun v => W7.rec (motive := fun _ => List (Nat × FV)) (fun a0 a1 a2 a3 a4 a5 a6 => [(t0, a0), (t1, a1), (t2, a2), (t3, a3), (t4, a4), (t5, a5), (t6, a6)]) v
  upd := fun l as v => W7.rec (motive := fun _ => W7) (fun a0 a1 a2 a3 a4 a5 a6 => W7.mk (updU l as t0 a0) (updU l as t1 a1) (updU l as t2 a2) (updU l as t3 a3) (updU l as t4 a4) (updU l as t5 a5) (updU l as t6 a6)) v
  ent := fun g => W7.mk (g t0) (g t1) (g t2) (g t3) (g t4) (g t5) (g t6)
  keys := fun _ => rfl
  law := fun _ _ _ => rfl
  start := fun _ => rfl
structure W8 where
  a0 : FV
  a1 : FV
  a2 : FV
  a3 : FV
  a4 : FV
  a5 : FV
  a6 : FV
  a7 : FV
def fu8 (t0 t1 t2 t3 t4 t5 t6 t7 : Nat) : FU W8 where
  K := [t0, t1, t2, t3, t4, t5, t6, t7]
  env := fun v => W8.rec (motive := fun _ => List (Nat × FV)) (fun a0 a1 a2 a3 a4 a5 a6 a7 => [(t0, a0), (t1, a1), (t2, a2), (t3, a3), (t4, a4), (t5, a5), (t6, a6), (t7, a7)]) v
  upd := fun l as v => W8.rec (motive := fun _ => W8) (fun a0 a1 a2 a3 a4 a5 a6 a7 => W8.mk (updU l as t0 a0) (updU l as t1 a1) (updU l as t2 a2) (updU l as t3 a3) (updU l as t4 a4) (updU l as t5 a5) (updU l as t6 a6) (updU l as t7 a7)) v
  ent := fun g => W8.mk (g t0) (g t1) (g t2) (g t3) (g t4) (g t5) (g t6) (g t7)
  keys := fun _ => rfl
  law := fun _ _ _ => rfl
  start := fun _ => rfl
structure W9 where
  a0 : FV
  a1 : FV
  a2 : FV
  a3 : FV
  a4 : FV
  a5 : FV
  a6 : FV
  a7 : FV
  a8 : FV
def fu9 (t0 t1 t2 t3 t4 t5 t6 t7 t8 : Nat) : FU W9 where
  K := [t0, t1, t2, t3, t4, t5, t6, t7, t8]
  env := fun v => W9.rec (motive := fun _ => List (Nat × FV)) (fun a0 a1 a2 a3 a4 a5 a6 a7 a8 => [(t0, a0), (t1, a1), (t2, a2), (t3, a3), (t4, a4), (t5, a5), (t6, a6), (t7, a7), (t8, a8)]) v
  upd := fun l as v => W9.rec (motive := fun _ => W9) (fun a0 a1 a2 a3 a4 a5 a6 a7 a8 => W9.mk (updU l as t0 a0) (updU l as t1 a1) (updU l as t2 a2) (updU l as t3 a3) (updU l as t4 a4) (updU l as t5 a5) (updU l as t6 a6) (updU l as t7 a7) (updU l as t8 a8)) v
  ent := fun g => W9.mk (g t0) (g t1) (g t2) (g t3) (g t4) (g t5) (g t6) (g t7) (g t8)
  keys := fun _ => rfl
  law := fun _ _ _ => rfl
  start := fun _ => rfl
structure W10 where
  a0 : FV
  a1 : FV
  a2 : FV
  a3 : FV
  a4 : FV
  a5 : FV
  a6 : FV
  a7 : FV
  a8 : FV
  a9 : FV
def fu10 (t0 t1 t2 t3 t4 t5 t6 t7 t8 t9 : Nat) : FU W10 where
  K := [t0, t1, t2, t3, t4, t5, t6, t7, t8, t9]
  env := fun v => W10.rec (motive := fun _ => List (Nat × FV)) (fun a0 a1 a2 a3 a4 a5 a6 a7 a8 a9 => [(t0, a0), (t1, a1), (t2, a2), (t3, a3), (t4, a4), (t5, a5), (t6, a6), (t7, a7), (t8, a8), (t9, a9)]) v
  upd := fun l as v => W10.rec (motive := fun _ => W10) (fun a0 a1 a2 a3 a4 a5 a6 a7 a8 a9 => W10.mk (updU l as t0 a0) (updU l as t1 a1) (updU l as t2 a2) (updU l as t3 a3) (updU l as t4 a4) (updU l as t5 a5) (updU l as t6 a6) (updU l as t7 a7) (updU l as t8 a8) (updU l as t9 a9)) v
  ent := fun g => W10.mk (g t0) (g t1) (g t2) (g t3) (g t4) (g t5) (g t6) (g t7) (g t8) (g t9)
  keys := fun _ => rfl
  law := fun _ _ _ => rfl
  start := fun _ => rfl
structure W11 where
  a0 : FV
  a1 : FV
  a2 : FV
  a3 : FV
  a4 : FV
  a5 : FV
  a6 : FV
  a7 : FV
  a8 : FV
  a9 : FV
  a10 : FV
def fu11 (t0 t1 t2 t3 t4 t5 t6 t7 t8 t9 t10 : Nat) : FU W11 where
  K := [t0, t1, t2, t3, t4, t5, t6, t7, t8, t9, t10]
  env := fun v => W11.rec (motive := fun _ => List (Nat × FV)) (fun a0 a1 a2 a3 a4 a5 a6 a7 a8 a9 a10 => [(t0, a0), (t1, a1), (t2, a2), (t3, a3), (t4, a4), (t5, a5), (t6, a6), (t7, a7), (t8, a8), (t9, a9), (t10, a10)]) v
  upd := fun l as v => W11.rec (motive := fun _ => W11) (fun a0 a1 a2 a3 a4 a5 a6 a7 a8 a9 a10 => W11.mk (updU l as t0 a0) (updU l as t1 a1) (updU l as t2 a2) (updU l as t3 a3) (updU l as t4 a4) (updU l as t5 a5) (updU l as t6 a6) (updU l as t7 a7) (updU l as t8 a8) (updU l as t9 a9) (updU l as t10 a10)) v
  ent := fun g => W11.mk (g t0) (g t1) (g t2) (g t3) (g t4) (g t5) (g t6) (g t7) (g t8) (g t9) (g t10)
  keys := fun _ => rfl
  law := fun _ _ _ => rfl
  start := fun _ => rfl
structure W12 where
  a0 : FV
  a1 : FV
  a2 : FV
  a3 : FV
  a4 : FV
  a5 : FV
  a6 : FV
  a7 : FV
  a8 : FV
  a9 : FV
  a10 : FV
  a11 : FV
def fu12 (t0 t1 t2 t3 t4 t5 t6 t7 t8 t9 t10 t11 : Nat) : FU W12 where
  K := [t0, t1, t2, t3, t4, t5, t6, t7, t8, t9, t10, t11]
  env := fun v => W12.rec (motive := fun _ => List (Nat × FV)) (fun a0 a1 a2 a3 a4 a5 a6 a7 a8 a9 a10 a11 => [(t0, a0), (t1, a1), (t2, a2), (t3, a3), (t4, a4), (t5, a5), (t6, a6), (t7, a7), (t8, a8), (t9, a9), (t10, a10), (t11, a11)]) v
  upd := fun l as v => W12.rec (motive := fun _ => W12) (fun a0 a1 a2 a3 a4 a5 a6 a7 a8 a9 a10 a11 => W12.mk (updU l as t0 a0) (updU l as t1 a1) (updU l as t2 a2) (updU l as t3 a3) (updU l as t4 a4) (updU l as t5 a5) (updU l as t6 a6) (updU l as t7 a7) (updU l as t8 a8) (updU l as t9 a9) (updU l as t10 a10) (updU l as t11 a11)) v
  ent := fun g => W12.mk (g t0) (g t1) (g t2) (g t3) (g t4) (g t5) (g t6) (g t7) (g t8) (g t9) (g t10) (g t11)
  keys := fun _ => rfl
  law := fun _ _ _ => rfl
  start := fun _ => rfl
structure W13 where
  a0 : FV
  a1 : FV
  a2 : FV
  a3 : FV
  a4 : FV
  a5 : FV
  a6 : FV
  a7 : FV
  a8 : FV
  a9 : FV
  a10 : FV
  a11 : FV
  a12 : FV
def fu13 (t0 t1 t2 t3 t4 t5 t6 t7 t8 t9 t10 t11 t12 : Nat) : FU W13 where
  K := [t0, t1, t2, t3, t4, t5, t6, t7, t8, t9, t10, t11, t12]
  env := fun v => W13.rec (motive := fun _ => List (Nat × FV)) (fun a0 a1 a2 a3 a4 a5 a6 a7 a8 a9 a10 a11 a12 => [(t0, a0), (t1, a1), (t2, a2), (t3, a3), (t4, a4), (t5, a5), (t6, a6), (t7, a7), (t8, a8), (t9, a9), (t10, a10), (t11, a11), (t12, a12)]) v
  upd := fun l as v => W13.rec (motive := fun _ => W13) (fun a0 a1 a2 a3 a4 a5 a6 a7 a8 a9 a10 a11 a12 => W13.mk (updU l as t0 a0) (updU l as t1 a1) (updU l as t2 a2) (updU l as t3 a3) (updU l as t4 a4) (updU l as t5 a5) (updU l as t6 a6) (updU l as t7 a7) (updU l as t8 a8) (updU l as t9 a9) (updU l as t10 a10) (updU l as t11 a11) (updU l as t12 a12)) v
  ent := fun g => W13.mk (g t0) (g t1) (g t2) (g t3) (g t4) (g t5) (g t6) (g t7) (g t8) (g t9) (g t10) (g t11) (g t12)
  keys := fun _ => rfl
  law := fun _ _ _ => rfl
  start := fun _ => rfl
structure W14 where
  a0 : FV
  a1 : FV
  a2 : FV
  a3 : FV
  a4 : FV
  a5 : FV
  a6 : FV
  a7 : FV
  a8 : FV
  a9 : FV
  a10 : FV
  a11 : FV
  a12 : FV
  a13 : FV
def fu14 (t0 t1 t2 t3 t4 t5 t6 t7 t8 t9 t10 t11 t12 t13 : Nat) : FU W14 where
  K := [t0, t1, t2, t3, t4, t5, t6, t7, t8, t9, t10, t11, t12, t13]
  env := fun v => W14.rec (motive := fun _ => List (Nat × FV)) (fun a0 a1 a2 a3 a4 a5 a6 a7 a8 a9 a10 a11 a12 a13 => [(t0, a0), (t1, a1), (t2, a2), (t3, a3), (t4, a4), (t5, a5), (t6, a6), (t7, a7), (t8, a8), (t9, a9), (t10, a10), (t11, a11), (t12, a12), (t13, a13)]) v
  upd := fun l as v => W14.rec (motive := fun _ => W14) (fun a0 a1 a2 a3 a4 a5 a6 a7 a8 a9 a10 a11 a12 a13 => W14.mk (updU l as t0 a0) (updU l as t1 a1) (updU l as t2 a2) (updU l as t3 a3) (updU l as t4 a4) (updU l as t5 a5) (updU l as t6 a6) (updU l as t7 a7) (updU l as t8 a8) (updU l as t9 a9) (updU l as t10 a10) (updU l as t11 a11) (updU l as t12 a12) (updU l as t13 a13)) v
  ent := fun g => W14.mk (g t0) (g t1) (g t2) (g t3) (g t4) (g t5) (g t6) (g t7) (g t8) (g t9) (g t10) (g t11) (g t12) (g t13)
  keys := fun _ => rfl
  law := fun _ _ _ => rfl
  start := fun _ => rfl
structure W15 where
  a0 : FV
  a1 : FV
  a2 : FV
  a3 : FV
  a4 : FV
  a5 : FV
  a6 : FV
  a7 : FV
  a8 : FV
  a9 : FV
  a10 : FV
  a11 : FV
  a12 : FV
  a13 : FV
  a14 : FV
def fu15 (t0 t1 t2 t3 t4 t5 t6 t7 t8 t9 t10 t11 t12 t13 t14 : Nat) : FU W15 where
  K := [t0, t1, t2, t3, t4, t5, t6, t7, t8, t9, t10, t11, t12, t13, t14]
  env := fun v => W15.rec (motive := fun _ => List (Nat × FV)) (fun a0 a1 a2 a3 a4 a5 a6 a7 a8 a9 a10 a11 a12 a13 a14 => [(t0, a0), (t1, a1), (t2, a2), (t3, a3), (t4, a4), (t5, a5), (t6, a6), (t7, a7), (t8, a8), (t9, a9), (t10, a10), (t11, a11), (t12, a12), (t13, a13), (t14, a14)]) v
  upd := fun l as v => W15.rec (motive := fun _ => W15) (fun a0 a1 a2 a3 a4 a5 a6 a7 a8 a9 a10 a11 a12 a13 a14 => W15.mk (updU l as t0 a0) (updU l as t1 a1) (updU l as t2 a2) (updU l as t3 a3) (updU l as t4 a4) (updU l as t5 a5) (updU l as t6 a6) (updU l as t7 a7) (updU l as t8 a8) (updU l as t9 a9) (updU l as t10 a10) (updU l as t11 a11) (updU l as t12 a12) (updU l as t13 a13) (updU l as t14 a14)) v
  ent := fun g => W15.mk (g t0) (g t1) (g t2) (g t3) (g t4) (g t5) (g t6) (g t7) (g t8) (g t9) (g t10) (g t11) (g t12) (g t13) (g t14)
  keys := fun _ => rfl
  law := fun _ _ _ => rfl
  start := fun _ => rfl
structure W16 where
  a0 : FV
  a1 : FV
  a2 : FV
  a3 : FV
  a4 : FV
  a5 : FV
  a6 : FV
  a7 : FV
  a8 : FV
  a9 : FV
  a10 : FV
  a11 : FV
  a12 : FV
  a13 : FV
  a14 : FV
  a15 : FV
def fu16 (t0 t1 t2 t3 t4 t5 t6 t7 t8 t9 t10 t11 t12 t13 t14 t15 : Nat) : FU W16 where
  K := [t0, t1, t2, t3, t4, t5, t6, t7, t8, t9, t10, t11, t12, t13, t14, t15]
  env := fun v => W16.rec (motive := fun _ => List (Nat × FV)) (fun a0 a1 a2 a3 a4 a5 a6 a7 a8 a9 a10 a11 a12 a13 a14 a15 => [(t0, a0), (t1, a1), (t2, a2), (t3, a3), (t4, a4), (t5, a5), (t6, a6), (t7, a7), (t8, a8), (t9, a9), (t10, a10), (t11, a11), (t12, a12), (t13, a13), (t14, a14), (t15, a15)]) v
  upd := fun l as v => W16.rec (motive := fun _ => W16) (fun a0 a1 a2 a3 a4 a5 a6 a7 a8 a9 a10 a11 a12 a13 a14 a15 => W16.mk (updU l as t0 a0) (updU l as t1 a1) (updU l as t2 a2) (updU l as t3 a3) (updU l as t4 a4) (updU l as t5 a5) (updU l as t6 a6) (updU l as t7 a7) (updU l as t8 a8) (updU l as t9 a9) (updU l as t10 a10) (updU l as t11 a11) (updU l as t12 a12) (updU l as t13 a13) (updU l as t14 a14) (updU l as t15 a15)) v
  ent := fun g => W16.mk (g t0) (g t1) (g t2) (g t3) (g t4) (g t5) (g t6) (g t7) (g t8) (g t9) (g t10) (g t11) (g t12) (g t13) (g t14) (g t15)
  keys := fun _ => rfl
  law := fun _ _ _ => rfl
  start := fun _ => rfl
structure W18 where
  a0 : FV
  a1 : FV
  a2 : FV
  a3 : FV
  a4 : FV
  a5 : FV
  a6 : FV
  a7 : FV
  a8 : FV
  a9 : FV
  a10 : FV
  a11 : FV
  a12 : FV
  a13 : FV
  a14 : FV
  a15 : FV
  a16 : FV
  a17 : FV
def fu18 (t0 t1 t2 t3 t4 t5 t6 t7 t8 t9 t10 t11 t12 t13 t14 t15 t16 t17 : Nat) : FU W18 where
  K := [t0, t1, t2, t3, t4, t5, t6, t7, t8, t9, t10, t11, t12, t13, t14, t15, t16, t17]
  env := fun v => W18.rec (motive := fun _ => List (Nat × FV)) (fun a0 a1 a2 a3 a4 a5 a6 a7 a8 a9 a10 a11 a12 a13 a14 a15 a16 a17 => [(t0, a0), (t1, a1), (t2, a2), (t3, a3), (t4, a4), (t5, a5), (t6, a6), (t7, a7), (t8, a8), (t9, a9), (t10, a10), (t11, a11), (t12, a12), (t13, a13), (t14, a14), (t15, a15), (t16, a16), (t17, a17)]) v
  upd := fun l as v => W18.rec (motive := fun _ => W18) (fun a0 a1 a2 a3 a4 a5 a6 a7 a8 a9 a10 a11 a12 a13 a14 a15 a16 a17 => W18.mk (updU l as t0 a0) (updU l as t1 a1) (updU l as t2 a2) (updU l as t3 a3) (updU l as t4 a4) (updU l as t5 a5) (updU l as t6 a6) (updU l as t7 a7) (updU l as t8 a8) (updU l as t9 a9) (updU l as t10 a10) (updU l as t11 a11) (updU l as t12 a12) (updU l as t13 a13) (updU l as t14 a14) (updU l as t15 a15) (updU l as t16 a16) (updU l as t17 a17)) v
  ent := fun g => W18.mk (g t0) (g t1) (g t2) (g t3) (g t4) (g t5) (g t6) (g t7) (g t8) (g t9) (g t10) (g t11) (g t12) (g t13) (g t14) (g t15) (g t16) (g t17)
  keys := fun _ => rfl
  law := fun _ _ _ => rfl
  start := fun _ => rfl
structure W19 where
  a0 : FV
  a1 : FV
  a2 : FV
  a3 : FV
  a4 : FV
  a5 : FV
  a6 : FV
  a7 : FV
  a8 : FV
  a9 : FV
  a10 : FV
  a11 : FV
  a12 : FV
  a13 : FV
  a14 : FV
  a15 : FV
  a16 : FV
  a17 : FV
  a18 : FV
def fu19 (t0 t1 t2 t3 t4 t5 t6 t7 t8 t9 t10 t11 t12 t13 t14 t15 t16 t17 t18 : Nat) : FU W19 where
  K := [t0, t1, t2, t3, t4, t5, t6, t7, t8, t9, t10, t11, t12, t13, t14, t15, t16, t17, t18]
  env := fun v => W19.rec (motive := fun _ => List (Nat × FV)) (fun a0 a1 a2 a3 a4 a5 a6 a7 a8 a9 a10 a11 a12 a13 a14 a15 a16 a17 a18 => [(t0, a0), (t1, a1), (t2, a2), (t3, a3), (t4, a4), (t5, a5), (t6, a6), (t7, a7), (t8, a8), (t9, a9), (t10, a10), (t11, a11), (t12, a12), (t13, a13), (t14, a14), (t15, a15), (t16, a16), (t17, a17), (t18, a18)]) v
  upd := fun l as v => W19.rec (motive := fun _ => W19) (fun a0 a1 a2 a3 a4 a5 a6 a7 a8 a9 a10 a11 a12 a13 a14 a15 a16 a17 a18 => W19.mk (updU l as t0 a0) (updU l as t1 a1) (updU l as t2 a2) (updU l as t3 a3) (updU l as t4 a4) (updU l as t5 a5) (updU l as t6 a6) (updU l as t7 a7) (updU l as t8 a8) (updU l as t9 a9) (updU l as t10 a10) (updU l as t11 a11) (updU l as t12 a12) (updU l as t13 a13) (updU l as t14 a14) (updU l as t15 a15) (updU l as t16 a16) (updU l as t17 a17) (updU l as t18 a18)) v
  ent := fun g => W19.mk (g t0) (g t1) (g t2) (g t3) (g t4) (g t5) (g t6) (g t7) (g t8) (g t9) (g t10) (g t11) (g t12) (g t13) (g t14) (g t15) (g t16) (g t17) (g t18)
  keys := fun _ => rfl
  law := fun _ _ _ => rfl
  start := fun _ => rfl
structure W20 where
  a0 : FV
  a1 : FV
  a2 : FV
  a3 : FV
  a4 : FV
  a5 : FV
  a6 : FV
  a7 : FV
  a8 : FV
  a9 : FV
  a10 : FV
  a11 : FV
  a12 : FV
  a13 : FV
  a14 : FV
  a15 : FV
  a16 : FV
  a17 : FV
  a18 : FV
  a19 : FV
def fu20 (t0 t1 t2 t3 t4 t5 t6 t7 t8 t9 t10 t11 t12 t13 t14 t15 t16 t17 t18 t19 : Nat) : FU W20 where
  K := [t0, t1, t2, t3, t4, t5, t6, t7, t8, t9, t10, t11, t12, t13, t14, t15, t16, t17, t18, t19]
  env := fun v => W20.rec (motive := fun _ => List (Nat × FV)) (fun a0 a1 a2 a3 a4 a5 a6 a7 a8 a9 a10 a11 a12 a13 a14 a15 a16 a17 a18 a19 => [(t0, a0), (t1, a1), (t2, a2), (t3, a3), (t4, a4), (t5, a5), (t6, a6), (t7, a7), (t8, a8), (t9, a9), (t10, a10), (t11, a11), (t12, a12), (t13, a13), (t14, a14), (t15, a15), (t16, a16), (t17, a17), (t18, a18), (t19, a19)]) v
  upd := fun l as v => W20.rec (motive := fun _ => W20) (fun a0 a1 a2 a3 a4 a5 a6 a7 a8 a9 a10 a11 a12 a13 a14 a15 a16 a17 a18 a19 => W20.mk (updU l as t0 a0) (updU l as t1 a1) (updU l as t2 a2) (updU l as t3 a3) (updU l as t4 a4) (updU l as t5 a5) (updU l as t6 a6) (updU l as t7 a7) (updU l as t8 a8) (updU l as t9 a9) (updU l as t10 a10) (updU l as t11 a11) (updU l as t12 a12) (updU l as t13 a13) (updU l as t14 a14) (updU l as t15 a15) (updU l as t16 a16) (updU l as t17 a17) (updU l as t18 a18) (updU l as t19 a19)) v
  ent := fun g => W20.mk (g t0) (g t1) (g t2) (g t3) (g t4) (g t5) (g t6) (g t7) (g t8) (g t9) (g t10) (g t11) (g t12) (g t13) (g t14) (g t15) (g t16) (g t17) (g t18) (g t19)
  keys := fun _ => rfl
  law := fun _ _ _ => rfl
  start := fun _ => rfl
structure W22 where
  a0 : FV
  a1 : FV
  a2 : FV
  a3 : FV
  a4 : FV
  a5 : FV
  a6 : FV
  a7 : FV
  a8 : FV
  a9 : FV
  a10 : FV
  a11 : FV
  a12 : FV
  a13 : FV
  a14 : FV
  a15 : FV
  a16 : FV
  a17 : FV
  a18 : FV
  a19 : FV
  a20 : FV
  a21 : FV
def fu22 (t0 t1 t2 t3 t4 t5 t6 t7 t8 t9 t10 t11 t12 t13 t14 t15 t16 t17 t18 t19 t20 t21 : Nat) : FU W22 where
  K := [t0, t1, t2, t3, t4, t5, t6, t7, t8, t9, t10, t11, t12, t13, t14, t15, t16, t17, t18, t19, t20, t21]
  env := fun v => W22.rec (motive := fun _ => List (Nat × FV)) (fun a0 a1 a2 a3 a4 a5 a6 a7 a8 a9 a10 a11 a12 a13 a14 a15 a16 a17 a18 a19 a20 a21 => [(t0, a0), (t1, a1), (t2, a2), (t3, a3), (t4, a4), (t5, a5), (t6, a6), (t7, a7), (t8, a8), (t9, a9), (t10, a10), (t11, a11), (t12, a12), (t13, a13), (t14, a14), (t15, a15), (t16, a16), (t17, a17), (t18, a18), (t19, a19), (t20, a20), (t21, a21)]) v
  upd := fun l as v => W22.rec (motive := fun _ => W22) (fun a0 a1 a2 a3 a4 a5 a6 a7 a8 a9 a10 a11 a12 a13 a14 a15 a16 a17 a18 a19 a20 a21 => W22.mk (updU l as t0 a0) (updU l as t1 a1) (updU l as t2 a2) (updU l as t3 a3) (updU l as t4 a4) (updU l as t5 a5) (updU l as t6 a6) (updU l as t7 a7) (updU l as t8 a8) (updU l as t9 a9) (updU l as t10 a10) (updU l as t11 a11) (updU l as t12 a12) (updU l as t13 a13) (updU l as t14 a14) (updU l as t15 a15) (updU l as t16 a16) (updU l as t17 a17) (updU l as t18 a18) (updU l as t19 a19) (updU l as t20 a20) (updU l as t21 a21)) v
  ent := fun g => W22.mk (g t0) (g t1) (g t2) (g t3) (g t4) (g t5) (g t6) (g t7) (g t8) (g t9) (g t10) (g t11) (g t12) (g t13) (g t14) (g t15) (g t16) (g t17) (g t18) (g t19) (g t20) (g t21)
  keys := fun _ => rfl
  law := fun _ _ _ => rfl
  start := fun _ => rfl
structure W24 where
  a0 : FV
  a1 : FV
  a2 : FV
  a3 : FV
  a4 : FV
  a5 : FV
  a6 : FV
  a7 : FV
  a8 : FV
  a9 : FV
  a10 : FV
  a11 : FV
  a12 : FV
  a13 : FV
  a14 : FV
  a15 : FV
  a16 : FV
  a17 : FV
  a18 : FV
  a19 : FV
  a20 : FV
  a21 : FV
  a22 : FV
  a23 : FV
def fu24 (t0 t1 t2 t3 t4 t5 t6 t7 t8 t9 t10 t11 t12 t13 t14 t15 t16 t17 t18 t19 t20 t21 t22 t23 : Nat) : FU W24 where
  K := [t0, t1, t2, t3, t4, t5, t6, t7, t8, t9, t10, t11, t12, t13, t14, t15, t16, t17, t18, t19, t20, t21, t22, t23]
  env := fun v => W24.rec (motive := fun _ => List (Nat × FV)) (fun a0 a1 a2 a3 a4 a5 a6 a7 a8 a9 a10 a11 a12 a13 a14 a15 a16 a17 a18 a19 a20 a21 a22 a23 => [(t0, a0), (t1, a1), (t2, a2), (t3, a3), (t4, a4), (t5, a5), (t6, a6), (t7, a7), (t8, a8), (t9, a9), (t10, a10), (t11, a11), (t12, a12), (t13, a13), (t14, a14), (t15, a15), (t16, a16), (t17, a17), (t18, a18), (t19, a19), (t20, a20), (t21, a21), (t22, a22), (t23, a23)]) v
  upd := fun l as v => W24.rec (motive := fun _ => W24) (fun a0 a1 a2 a3 a4 a5 a6 a7 a8 a9 a10 a11 a12 a13 a14 a15 a16 a17 a18 a19 a20 a21 a22 a23 => W24.mk (updU l as t0 a0) (updU l as t1 a1) (updU l as t2 a2) (updU l as t3 a3) (updU l as t4 a4) (updU l as t5 a5) (updU l as t6 a6) (updU l as t7 a7) (updU l as t8 a8) (updU l as t9 a9) (updU l as t10 a10) (updU l as t11 a11) (updU l as t12 a12) (updU l as t13 a13) (updU l as t14 a14) (updU l as t15 a15) (updU l as t16 a16) (updU l as t17 a17) (updU l as t18 a18) (updU l as t19 a19) (updU l as t20 a20) (updU l as t21 a21) (updU l as t22 a22) (updU l as t23 a23)) v
  ent := fun g => W24.mk (g t0) (g t1) (g t2) (g t3) (g t4) (g t5) (g t6) (g t7) (g t8) (g t9) (g t10) (g t11) (g t12) (g t13) (g t14) (g t15) (g t16) (g t17) (g t18) (g t19) (g t20) (g t21) (g t22) (g t23)
  keys := fun _ => rfl
  law := fun _ _ _ => rfl
  start := fun _ => rfl
structure W27 where
  a0 : FV
  a1 : FV
  a2 : FV
  a3 : FV
  a4 : FV
  a5 : FV
  a6 : FV
  a7 : FV
  a8 : FV
  a9 : FV
  a10 : FV
  a11 : FV
  a12 : FV
  a13 : FV
  a14 : FV
  a15 : FV
  a16 : FV
  a17 : FV
  a18 : FV
  a19 : FV
  a20 : FV
  a21 : FV
  a22 : FV
  a23 : FV
  a24 : FV
  a25 : FV
  a26 : FV
def fu27 (t0 t1 t2 t3 t4 t5 t6 t7 t8 t9 t10 t11 t12 t13 t14 t15 t16 t17 t18 t19 t20 t21 t22 t23 t24 t25 t26 : Nat) : FU W27 where
  K := [t0, t1, t2, t3, t4, t5, t6, t7, t8, t9, t10, t11, t12, t13, t14, t15, t16, t17, t18, t19, t20, t21, t22, t23, t24, t25, t26]
  env := fun v => W27.rec (motive := fun _ => List (Nat × FV)) (fun a0 a1 a2 a3 a4 a5 a6 a7 a8 a9 a10 a11 a12 a13 a14 a15 a16 a17 a18 a19 a20 a21 a22 a23 a24 a25 a26 => [(t0, a0), (t1, a1), (t2, a2), (t3, a3), (t4, a4), (t5, a5), (t6, a6), (t7, a7), (t8, a8), (t9, a9), (t10, a10), (t11, a11), (t12, a12), (t13, a13), (t14, a14), (t15, a15), (t16, a16), (t17, a17), (t18, a18), (t19, a19), (t20, a20), (t21, a21), (t22, a22), (t23, a23), (t24, a24), (t25, a25), (t26, a26)]) v
  upd := fun l as v => W27.rec (motive := fun _ => W27) (fun a0 a1 a2 a3 a4 a5 a6 a7 a8 a9 a10 a11 a12 a13 a14 a15 a16 a17 a18 a19 a20 a21 a22 a23 a24 a25 a26 => W27.mk (updU l as t0 a0) (updU l as t1 a1) (updU l as t2 a2) (updU l as t3 a3) (updU l as t4 a4) (updU l as t5 a5) (updU l as t6 a6) (updU l as t7 a7) (updU l as t8 a8) (updU l as t9 a9) (updU l as t10 a10) (updU l as t11 a11) (updU l as t12 a12) (updU l as t13 a13) (updU l as t14 a14) (updU l as t15 a15) (updU l as t16 a16) (updU l as t17 a17) (updU l as t18 a18) (updU l as t19 a19) (updU l as t20 a20) (updU l as t21 a21) (updU l as t22 a22) (updU l as t23 a23) (updU l as t24 a24) (updU l as t25 a25) (updU l as t26 a26)) v
  ent := fun g => W27.mk (g t0) (g t1) (g t2) (g t3) (g t4) (g t5) (g t6) (g t7) (g t8) (g t9) (g t10) (g t11) (g t12) (g t13) (g t14) (g t15) (g t16) (g t17) (g t18) (g t19) (g t20) (g t21) (g t22) (g t23) (g t24) (g t25) (g t26)
  keys := fun _ => rfl
  law := fun _ _ _ => rfl
  start := fun _ => rfl
end
end Go.Proofs.YtkcafoogpbopiaaGreatDoor.Ev
