/- Frames of so many slots. -/
import Derived.Test.YtbngpadibllogaaGreatDoorEvG5
namespace Go.Proofs.YtbngpadibllogaaGreatDoor.Ev
open Go Go.RowKit
set_option linter.unusedVariables false
structure V1 where
  a0 : Value
def ft1 (t0 : Nat) : FT V1 where
  K := [t0]
  env := fun v => V1.casesOn v (fun a0 => [(t0, a0)])
  upd := fun l as v => V1.casesOn v (fun a0 => V1.mk (updV l as t0 a0))
  ent := fun g => V1.mk (g t0)
  keys := fun _ => rfl
  law := fun _ _ _ => rfl
  start := fun _ => rfl
structure V2 where
  a0 : Value
  a1 : Value
def ft2 (t0 t1 : Nat) : FT V2 where
  K := [t0, t1]
  env := fun v => V2.casesOn v (fun a0 a1 => [(t0, a0), (t1, a1)])
  upd := fun l as v => V2.casesOn v (fun a0 a1 => V2.mk (updV l as t0 a0) (updV l as t1 a1))
  ent := fun g => V2.mk (g t0) (g t1)
  keys := fun _ => rfl
  law := fun _ _ _ => rfl
  start := fun _ => rfl
structure V3 where
  a0 : Value
  a1 : Value
  a2 : Value
def ft3 (t0 t1 t2 : Nat) : FT V3 where
  K := [t0, t1, t2]
  env := fun v => V3.casesOn v (fun a0 a1 a2 => [(t0, a0), (t1, a1), (t2, a2)])
  upd := fun l as v => V3.casesOn v (fun a0 a1 a2 => V3.mk (updV l as t0 a0) (updV l as t1 a1) (updV l as t2 a2))
  ent := fun g => V3.mk (g t0) (g t1) (g t2)
  keys := fun _ => rfl
  law := fun _ _ _ => rfl
  start := fun _ => rfl
structure V4 where
  a0 : Value
  a1 : Value
  a2 : Value
  a3 : Value
def ft4 (t0 t1 t2 t3 : Nat) : FT V4 where
  K := [t0, t1, t2, t3]
  env := fun v => V4.casesOn v (fun a0 a1 a2 a3 => [(t0, a0), (t1, a1), (t2, a2), (t3, a3)])
  upd := fun l as v => V4.casesOn v (fun a0 a1 a2 a3 => V4.mk (updV l as t0 a0) (updV l as t1 a1) (updV l as t2 a2) (updV l as t3 a3))
  ent := fun g => V4.mk (g t0) (g t1) (g t2) (g t3)
  keys := fun _ => rfl
  law := fun _ _ _ => rfl
  start := fun _ => rfl
structure V5 where
  a0 : Value
  a1 : Value
  a2 : Value
  a3 : Value
  a4 : Value
def ft5 (t0 t1 t2 t3 t4 : Nat) : FT V5 where
  K := [t0, t1, t2, t3, t4]
  env := fun v => V5.casesOn v (fun a0 a1 a2 a3 a4 => [(t0, a0), (t1, a1), (t2, a2), (t3, a3), (t4, a4)])
  upd := fun l as v => V5.casesOn v (fun a0 a1 a2 a3 a4 => V5.mk (updV l as t0 a0) (updV l as t1 a1) (updV l as t2 a2) (updV l as t3 a3) (updV l as t4 a4))
  ent := fun g => V5.mk (g t0) (g t1) (g t2) (g t3) (g t4)
  keys := fun _ => rfl
  law := fun _ _ _ => rfl
  start := fun _ => rfl
structure V6 where
  a0 : Value
  a1 : Value
  a2 : Value
  a3 : Value
  a4 : Value
  a5 : Value
def ft6 (t0 t1 t2 t3 t4 t5 : Nat) : FT V6 where
  K := [t0, t1, t2, t3, t4, t5]
  env := fun v => V6.casesOn v (fun a0 a1 a2 a3 a4 a5 => [(t0, a0), (t1, a1), (t2, a2), (t3, a3), (t4, a4), (t5, a5)])
  upd := fun l as v => V6.casesOn v (fun a0 a1 a2 a3 a4 a5 => V6.mk (updV l as t0 a0) (updV l as t1 a1) (updV l as t2 a2) (updV l as t3 a3) (updV l as t4 a4) (updV l as t5 a5))
  ent := fun g => V6.mk (g t0) (g t1) (g t2) (g t3) (g t4) (g t5)
  keys := fun _ => rfl
  law := fun _ _ _ => rfl
  start := fun _ => rfl
structure V7 where
  a0 : Value
  a1 : Value
  a2 : Value
  a3 : Value
  a4 : Value
  a5 : Value
  a6 : Value
def ft7 (t0 t1 t2 t3 t4 t5 t6 : Nat) : FT V7 where
  K := [t0, t1, t2, t3, t4, t5, t6]
  env := fun v => V7.casesOn v (fun a0 a1 a2 a3 a4 a5 a6 => [(t0, a0), (t1, a1), (t2, a2), (t3, a3), (t4, a4), (t5, a5), (t6, a6)])
  upd := fun l as v => V7.casesOn v (fun a0 a1 a2 a3 a4 a5 a6 => V7.mk (updV l as t0 a0) (updV l as t1 a1) (updV l as t2 a2) (updV l as t3 a3) (updV l as t4 a4) (updV l as t5 a5) (updV l as t6 a6))
  ent := fun g => V7.mk (g t0) (g t1) (g t2) (g t3) (g t4) (g t5) (g t6)
  keys := fun _ => rfl
  law := fun _ _ _ => rfl
  start := fun _ => rfl
structure V8 where
  a0 : Value
  a1 : Value
  a2 : Value
  a3 : Value
  a4 : Value
  a5 : Value
  a6 : Value
  a7 : Value
def ft8 (t0 t1 t2 t3 t4 t5 t6 t7 : Nat) : FT V8 where
  K := [t0, t1, t2, t3, t4, t5, t6, t7]
  env := fun v => V8.casesOn v (fun a0 a1 a2 a3 a4 a5 a6 a7 => [(t0, a0), (t1, a1), (t2, a2), (t3, a3), (t4, a4), (t5, a5), (t6, a6), (t7, a7)])
  upd := fun l as v => V8.casesOn v (fun a0 a1 a2 a3 a4 a5 a6 a7 => V8.mk (updV l as t0 a0) (updV l as t1 a1) (updV l as t2 a2) (updV l as t3 a3) (updV l as t4 a4) (updV l as t5 a5) (updV l as t6 a6) (updV l as t7 a7))
  ent := fun g => V8.mk (g t0) (g t1) (g t2) (g t3) (g t4) (g t5) (g t6) (g t7)
  keys := fun _ => rfl
  law := fun _ _ _ => rfl
  start := fun _ => rfl
structure V9 where
  a0 : Value
  a1 : Value
  a2 : Value
  a3 : Value
  a4 : Value
  a5 : Value
  a6 : Value
  a7 : Value
  a8 : Value
def ft9 (t0 t1 t2 t3 t4 t5 t6 t7 t8 : Nat) : FT V9 where
  K := [t0, t1, t2, t3, t4, t5, t6, t7, t8]
  env := fun v => V9.casesOn v (fun a0 a1 a2 a3 a4 a5 a6 a7 a8 => [(t0, a0), (t1, a1), (t2, a2), (t3, a3), (t4, a4), (t5, a5), (t6, a6), (t7, a7), (t8, a8)])
  upd := fun l as v => V9.casesOn v (fun a0 a1 a2 a3 a4 a5 a6 a7 a8 => V9.mk (updV l as t0 a0) (updV l as t1 a1) (updV l as t2 a2) (updV l as t3 a3) (updV l as t4 a4) (updV l as t5 a5) (updV l as t6 a6) (updV l as t7 a7) (updV l as t8 a8))
  ent := fun g => V9.mk (g t0) (g t1) (g t2) (g t3) (g t4) (g t5) (g t6) (g t7) (g t8)
  keys := fun _ => rfl
  law := fun _ _ _ => rfl
  start := fun _ => rfl
structure V10 where
  a0 : Value
  a1 : Value
  a2 : Value
  a3 : Value
  a4 : Value
  a5 : Value
  a6 : Value
  a7 : Value
  a8 : Value
  a9 : Value
def ft10 (t0 t1 t2 t3 t4 t5 t6 t7 t8 t9 : Nat) : FT V10 where
  K := [t0, t1, t2, t3, t4, t5, t6, t7, t8, t9]
  env := fun v => V10.casesOn v (fun a0 a1 a2 a3 a4 a5 a6 a7 a8 a9 => [(t0, a0), (t1, a1), (t2, a2), (t3, a3), (t4, a4), (t5, a5), (t6, a6), (t7, a7), (t8, a8), (t9, a9)])
  upd := fun l as v => V10.casesOn v (fun a0 a1 a2 a3 a4 a5 a6 a7 a8 a9 => V10.mk (updV l as t0 a0) (updV l as t1 a1) (updV l as t2 a2) (updV l as t3 a3) (updV l as t4 a4) (updV l as t5 a5) (updV l as t6 a6) (updV l as t7 a7) (updV l as t8 a8) (updV l as t9 a9))
  ent := fun g => V10.mk (g t0) (g t1) (g t2) (g t3) (g t4) (g t5) (g t6) (g t7) (g t8) (g t9)
  keys := fun _ => rfl
  law := fun _ _ _ => rfl
  start := fun _ => rfl
structure V11 where
  a0 : Value
  a1 : Value
  a2 : Value
  a3 : Value
  a4 : Value
  a5 : Value
  a6 : Value
  a7 : Value
  a8 : Value
  a9 : Value
  a10 : Value
def ft11 (t0 t1 t2 t3 t4 t5 t6 t7 t8 t9 t10 : Nat) : FT V11 where
  K := [t0, t1, t2, t3, t4, t5, t6, t7, t8, t9, t10]
  env := fun v => V11.casesOn v (fun a0 a1 a2 a3 a4 a5 a6 a7 a8 a9 a10 => [(t0, a0), (t1, a1), (t2, a2), (t3, a3), (t4, a4), (t5, a5), (t6, a6), (t7, a7), (t8, a8), (t9, a9), (t10, a10)])
  upd := fun l as v => V11.casesOn v (fun a0 a1 a2 a3 a4 a5 a6 a7 a8 a9 a10 => V11.mk (updV l as t0 a0) (updV l as t1 a1) (updV l as t2 a2) (updV l as t3 a3) (updV l as t4 a4) (updV l as t5 a5) (updV l as t6 a6) (updV l as t7 a7) (updV l as t8 a8) (updV l as t9 a9) (updV l as t10 a10))
  ent := fun g => V11.mk (g t0) (g t1) (g t2) (g t3) (g t4) (g t5) (g t6) (g t7) (g t8) (g t9) (g t10)
  keys := fun _ => rfl
  law := fun _ _ _ => rfl
  start := fun _ => rfl
structure V12 where
  a0 : Value
  a1 : Value
  a2 : Value
  a3 : Value
  a4 : Value
  a5 : Value
  a6 : Value
  a7 : Value
  a8 : Value
  a9 : Value
  a10 : Value
  a11 : Value
def ft12 (t0 t1 t2 t3 t4 t5 t6 t7 t8 t9 t10 t11 : Nat) : FT V12 where
  K := [t0, t1, t2, t3, t4, t5, t6, t7, t8, t9, t10, t11]
  env := fun v => V12.casesOn v (fun a0 a1 a2 a3 a4 a5 a6 a7 a8 a9 a10 a11 => [(t0, a0), (t1, a1), (t2, a2), (t3, a3), (t4, a4), (t5, a5), (t6, a6), (t7, a7), (t8, a8), (t9, a9), (t10, a10), (t11, a11)])
  upd := fun l as v => V12.casesOn v (fun a0 a1 a2 a3 a4 a5 a6 a7 a8 a9 a10 a11 => V12.mk (updV l as t0 a0) (updV l as t1 a1) (updV l as t2 a2) (updV l as t3 a3) (updV l as t4 a4) (updV l as t5 a5) (updV l as t6 a6) (updV l as t7 a7) (updV l as t8 a8) (updV l as t9 a9) (updV l as t10 a10) (updV l as t11 a11))
  ent := fun g => V12.mk (g t0) (g t1) (g t2) (g t3) (g t4) (g t5) (g t6) (g t7) (g t8) (g t9) (g t10) (g t11)
  keys := fun _ => rfl
  law := fun _ _ _ => rfl
  start := fun _ => rfl
structure V13 where
  a0 : Value
  a1 : Value
  a2 : Value
  a3 : Value
  a4 : Value
  a5 : Value
  a6 : Value
  a7 : Value
  a8 : Value
  a9 : Value
  a10 : Value
  a11 : Value
  a12 : Value
def ft13 (t0 t1 t2 t3 t4 t5 t6 t7 t8 t9 t10 t11 t12 : Nat) : FT V13 where
  K := [t0, t1, t2, t3, t4, t5, t6, t7, t8, t9, t10, t11, t12]
  env := fun v => V13.casesOn v (fun a0 a1 a2 a3 a4 a5 a6 a7 a8 a9 a10 a11 a12 => [(t0, a0), (t1, a1), (t2, a2), (t3, a3), (t4, a4), (t5, a5), (t6, a6), (t7, a7), (t8, a8), (t9, a9), (t10, a10), (t11, a11), (t12, a12)])
  upd := fun l as v => V13.casesOn v (fun a0 a1 a2 a3 a4 a5 a6 a7 a8 a9 a10 a11 a12 => V13.mk (updV l as t0 a0) (updV l as t1 a1) (updV l as t2 a2) (updV l as t3 a3) (updV l as t4 a4) (updV l as t5 a5) (updV l as t6 a6) (updV l as t7 a7) (updV l as t8 a8) (updV l as t9 a9) (updV l as t10 a10) (updV l as t11 a11) (updV l as t12 a12))
  ent := fun g => V13.mk (g t0) (g t1) (g t2) (g t3) (g t4) (g t5) (g t6) (g t7) (g t8) (g t9) (g t10) (g t11) (g t12)
  keys := fun _ => rfl
  law := fun _ _ _ => rfl
  start := fun _ => rfl
structure V14 where
  a0 : Value
  a1 : Value
  a2 : Value
  a3 : Value
  a4 : Value
  a5 : Value
  a6 : Value
  a7 : Value
  a8 : Value
  a9 : Value
  a10 : Value
  a11 : Value
  a12 : Value
  a13 : Value
def ft14 (t0 t1 t2 t3 t4 t5 t6 t7 t8 t9 t10 t11 t12 t13 : Nat) : FT V14 where
  K := [t0, t1, t2, t3, t4, t5, t6, t7, t8, t9, t10, t11, t12, t13]
  env := fun v => V14.casesOn v (fun a0 a1 a2 a3 a4 a5 a6 a7 a8 a9 a10 a11 a12 a13 => [(t0, a0), (t1, a1), (t2, a2), (t3, a3), (t4, a4), (t5, a5), (t6, a6), (t7, a7), (t8, a8), (t9, a9), (t10, a10), (t11, a11), (t12, a12), (t13, a13)])
  upd := fun l as v => V14.casesOn v (fun a0 a1 a2 a3 a4 a5 a6 a7 a8 a9 a10 a11 a12 a13 => V14.mk (updV l as t0 a0) (updV l as t1 a1) (updV l as t2 a2) (updV l as t3 a3) (updV l as t4 a4) (updV l as t5 a5) (updV l as t6 a6) (updV l as t7 a7) (updV l as t8 a8) (updV l as t9 a9) (updV l as t10 a10) (updV l as t11 a11) (updV l as t12 a12) (updV l as t13 a13))
  ent := fun g => V14.mk (g t0) (g t1) (g t2) (g t3) (g t4) (g t5) (g t6) (g t7) (g t8) (g t9) (g t10) (g t11) (g t12) (g t13)
  keys := fun _ => rfl
  law := fun _ _ _ => rfl
  start := fun _ => rfl
structure V16 where
  a0 : Value
  a1 : Value
  a2 : Value
  a3 : Value
  a4 : Value
  a5 : Value
  a6 : Value
  a7 : Value
  a8 : Value
  a9 : Value
  a10 : Value
  a11 : Value
  a12 : Value
  a13 : Value
  a14 : Value
  a15 : Value
def ft16 (t0 t1 t2 t3 t4 t5 t6 t7 t8 t9 t10 t11 t12 t13 t14 t15 : Nat) : FT V16 where
  K := [t0, t1, t2, t3, t4, t5, t6, t7, t8, t9, t10, t11, t12, t13, t14, t15]
  env := fun v => V16.casesOn v (fun a0 a1 a2 a3 a4 a5 a6 a7 a8 a9 a10 a11 a12 a13 a14 a15 => [(t0, a0), (t1, a1), (t2, a2), (t3, a3), (t4, a4), (t5, a5), (t6, a6), (t7, a7), (t8, a8), (t9, a9), (t10, a10), (t11, a11), (t12, a12), (t13, a13), (t14, a14), (t15, a15)])
  upd := fun l as v => V16.casesOn v (fun a0 a1 a2 a3 a4 a5 a6 a7 a8 a9 a10 a11 a12 a13 a14 a15 => V16.mk (updV l as t0 a0) (updV l as t1 a1) (updV l as t2 a2) (updV l as t3 a3) (updV l as t4 a4) (updV l as t5 a5) (updV l as t6 a6) (updV l as t7 a7) (updV l as t8 a8) (updV l as t9 a9) (updV l as t10 a10) (updV l as t11 a11) (updV l as t12 a12) (updV l as t13 a13) (updV l as t14 a14) (updV l as t15 a15))
  ent := fun g => V16.mk (g t0) (g t1) (g t2) (g t3) (g t4) (g t5) (g t6) (g t7) (g t8) (g t9) (g t10) (g t11) (g t12) (g t13) (g t14) (g t15)
  keys := fun _ => rfl
  law := fun _ _ _ => rfl
  start := fun _ => rfl
structure V18 where
  a0 : Value
  a1 : Value
  a2 : Value
  a3 : Value
  a4 : Value
  a5 : Value
  a6 : Value
  a7 : Value
  a8 : Value
  a9 : Value
  a10 : Value
  a11 : Value
  a12 : Value
  a13 : Value
  a14 : Value
  a15 : Value
  a16 : Value
  a17 : Value
def ft18 (t0 t1 t2 t3 t4 t5 t6 t7 t8 t9 t10 t11 t12 t13 t14 t15 t16 t17 : Nat) : FT V18 where
  K := [t0, t1, t2, t3, t4, t5, t6, t7, t8, t9, t10, t11, t12, t13, t14, t15, t16, t17]
  env := fun v => V18.casesOn v (fun a0 a1 a2 a3 a4 a5 a6 a7 a8 a9 a10 a11 a12 a13 a14 a15 a16 a17 => [(t0, a0), (t1, a1), (t2, a2), (t3, a3), (t4, a4), (t5, a5), (t6, a6), (t7, a7), (t8, a8), (t9, a9), (t10, a10), (t11, a11), (t12, a12), (t13, a13), (t14, a14), (t15, a15), (t16, a16), (t17, a17)])
  upd := fun l as v => V18.casesOn v (fun a0 a1 a2 a3 a4 a5 a6 a7 a8 a9 a10 a11 a12 a13 a14 a15 a16 a17 => V18.mk (updV l as t0 a0) (updV l as t1 a1) (updV l as t2 a2) (updV l as t3 a3) (updV l as t4 a4) (updV l as t5 a5) (updV l as t6 a6) (updV l as t7 a7) (updV l as t8 a8) (updV l as t9 a9) (updV l as t10 a10) (updV l as t11 a11) (updV l as t12 a12) (updV l as t13 a13) (updV l as t14 a14) (updV l as t15 a15) (updV l as t16 a16) (updV l as t17 a17))
  ent := fun g => V18.mk (g t0) (g t1) (g t2) (g t3) (g t4) (g t5) (g t6) (g t7) (g t8) (g t9) (g t10) (g t11) (g t12) (g t13) (g t14) (g t15) (g t16) (g t17)
  keys := fun _ => rfl
  law := fun _ _ _ => rfl
  start := fun _ => rfl
structure V19 where
  a0 : Value
  a1 : Value
  a2 : Value
  a3 : Value
  a4 : Value
  a5 : Value
  a6 : Value
  a7 : Value
  a8 : Value
  a9 : Value
  a10 : Value
  a11 : Value
  a12 : Value
  a13 : Value
  a14 : Value
  a15 : Value
  a16 : Value
  a17 : Value
  a18 : Value
def ft19 (t0 t1 t2 t3 t4 t5 t6 t7 t8 t9 t10 t11 t12 t13 t14 t15 t16 t17 t18 : Nat) : FT V19 where
  K := [t0, t1, t2, t3, t4, t5, t6, t7, t8, t9, t10, t11, t12, t13, t14, t15, t16, t17, t18]
  env := fun v => V19.casesOn v (fun a0 a1 a2 a3 a4 a5 a6 a7 a8 a9 a10 a11 a12 a13 a14 a15 a16 a17 a18 => [(t0, a0), (t1, a1), (t2, a2), (t3, a3), (t4, a4), (t5, a5), (t6, a6), (t7, a7), (t8, a8), (t9, a9), (t10, a10), (t11, a11), (t12, a12), (t13, a13), (t14, a14), (t15, a15), (t16, a16), (t17, a17), (t18, a18)])
  upd := fun l as v => V19.casesOn v (fun a0 a1 a2 a3 a4 a5 a6 a7 a8 a9 a10 a11 a12 a13 a14 a15 a16 a17 a18 => V19.mk (updV l as t0 a0) (updV l as t1 a1) (updV l as t2 a2) (updV l as t3 a3) (updV l as t4 a4) (updV l as t5 a5) (updV l as t6 a6) (updV l as t7 a7) (updV l as t8 a8) (updV l as t9 a9) (updV l as t10 a10) (updV l as t11 a11) (updV l as t12 a12) (updV l as t13 a13) (updV l as t14 a14) (updV l as t15 a15) (updV l as t16 a16) (updV l as t17 a17) (updV l as t18 a18))
  ent := fun g => V19.mk (g t0) (g t1) (g t2) (g t3) (g t4) (g t5) (g t6) (g t7) (g t8) (g t9) (g t10) (g t11) (g t12) (g t13) (g t14) (g t15) (g t16) (g t17) (g t18)
  keys := fun _ => rfl
  law := fun _ _ _ => rfl
  start := fun _ => rfl
structure V20 where
  a0 : Value
  a1 : Value
  a2 : Value
  a3 : Value
  a4 : Value
  a5 : Value
  a6 : Value
  a7 : Value
  a8 : Value
  a9 : Value
  a10 : Value
  a11 : Value
  a12 : Value
  a13 : Value
  a14 : Value
  a15 : Value
  a16 : Value
  a17 : Value
  a18 : Value
  a19 : Value
def ft20 (t0 t1 t2 t3 t4 t5 t6 t7 t8 t9 t10 t11 t12 t13 t14 t15 t16 t17 t18 t19 : Nat) : FT V20 where
  K := [t0, t1, t2, t3, t4, t5, t6, t7, t8, t9, t10, t11, t12, t13, t14, t15, t16, t17, t18, t19]
  env := fun v => V20.casesOn v (fun a0 a1 a2 a3 a4 a5 a6 a7 a8 a9 a10 a11 a12 a13 a14 a15 a16 a17 a18 a19 => [(t0, a0), (t1, a1), (t2, a2), (t3, a3), (t4, a4), (t5, a5), (t6, a6), (t7, a7), (t8, a8), (t9, a9), (t10, a10), (t11, a11), (t12, a12), (t13, a13), (t14, a14), (t15, a15), (t16, a16), (t17, a17), (t18, a18), (t19, a19)])
  upd := fun l as v => V20.casesOn v (fun a0 a1 a2 a3 a4 a5 a6 a7 a8 a9 a10 a11 a12 a13 a14 a15 a16 a17 a18 a19 => V20.mk (updV l as t0 a0) (updV l as t1 a1) (updV l as t2 a2) (updV l as t3 a3) (updV l as t4 a4) (updV l as t5 a5) (updV l as t6 a6) (updV l as t7 a7) (updV l as t8 a8) (updV l as t9 a9) (updV l as t10 a10) (updV l as t11 a11) (updV l as t12 a12) (updV l as t13 a13) (updV l as t14 a14) (updV l as t15 a15) (updV l as t16 a16) (updV l as t17 a17) (updV l as t18 a18) (updV l as t19 a19))
  ent := fun g => V20.mk (g t0) (g t1) (g t2) (g t3) (g t4) (g t5) (g t6) (g t7) (g t8) (g t9) (g t10) (g t11) (g t12) (g t13) (g t14) (g t15) (g t16) (g t17) (g t18) (g t19)
  keys := fun _ => rfl
  law := fun _ _ _ => rfl
  start := fun _ => rfl
structure V21 where
  a0 : Value
  a1 : Value
  a2 : Value
  a3 : Value
  a4 : Value
  a5 : Value
  a6 : Value
  a7 : Value
  a8 : Value
  a9 : Value
  a10 : Value
  a11 : Value
  a12 : Value
  a13 : Value
  a14 : Value
  a15 : Value
  a16 : Value
  a17 : Value
  a18 : Value
  a19 : Value
  a20 : Value
def ft21 (t0 t1 t2 t3 t4 t5 t6 t7 t8 t9 t10 t11 t12 t13 t14 t15 t16 t17 t18 t19 t20 : Nat) : FT V21 where
  K := [t0, t1, t2, t3, t4, t5, t6, t7, t8, t9, t10, t11, t12, t13, t14, t15, t16, t17, t18, t19, t20]
  env := fun v => V21.casesOn v (fun a0 a1 a2 a3 a4 a5 a6 a7 a8 a9 a10 a11 a12 a13 a14 a15 a16 a17 a18 a19 a20 => [(t0, a0), (t1, a1), (t2, a2), (t3, a3), (t4, a4), (t5, a5), (t6, a6), (t7, a7), (t8, a8), (t9, a9), (t10, a10), (t11, a11), (t12, a12), (t13, a13), (t14, a14), (t15, a15), (t16, a16), (t17, a17), (t18, a18), (t19, a19), (t20, a20)])
  upd := fun l as v => V21.casesOn v (fun a0 a1 a2 a3 a4 a5 a6 a7 a8 a9 a10 a11 a12 a13 a14 a15 a16 a17 a18 a19 a20 => V21.mk (updV l as t0 a0) (updV l as t1 a1) (updV l as t2 a2) (updV l as t3 a3) (updV l as t4 a4) (updV l as t5 a5) (updV l as t6 a6) (updV l as t7 a7) (updV l as t8 a8) (updV l as t9 a9) (updV l as t10 a10) (updV l as t11 a11) (updV l as t12 a12) (updV l as t13 a13) (updV l as t14 a14) (updV l as t15 a15) (updV l as t16 a16) (updV l as t17 a17) (updV l as t18 a18) (updV l as t19 a19) (updV l as t20 a20))
  ent := fun g => V21.mk (g t0) (g t1) (g t2) (g t3) (g t4) (g t5) (g t6) (g t7) (g t8) (g t9) (g t10) (g t11) (g t12) (g t13) (g t14) (g t15) (g t16) (g t17) (g t18) (g t19) (g t20)
  keys := fun _ => rfl
  law := fun _ _ _ => rfl
  start := fun _ => rfl
structure V24 where
  a0 : Value
  a1 : Value
  a2 : Value
  a3 : Value
  a4 : Value
  a5 : Value
  a6 : Value
  a7 : Value
  a8 : Value
  a9 : Value
  a10 : Value
  a11 : Value
  a12 : Value
  a13 : Value
  a14 : Value
  a15 : Value
  a16 : Value
  a17 : Value
  a18 : Value
  a19 : Value
  a20 : Value
  a21 : Value
  a22 : Value
  a23 : Value
def ft24 (t0 t1 t2 t3 t4 t5 t6 t7 t8 t9 t10 t11 t12 t13 t14 t15 t16 t17 t18 t19 t20 t21 t22 t23 : Nat) : FT V24 where
  K := [t0, t1, t2, t3, t4, t5, t6, t7, t8, t9, t10, t11, t12, t13, t14, t15, t16, t17, t18, t19, t20, t21, t22, t23]
  env := fun v => V24.casesOn v (fun a0 a1 a2 a3 a4 a5 a6 a7 a8 a9 a10 a11 a12 a13 a14 a15 a16 a17 a18 a19 a20 a21 a22 a23 => [(t0, a0), (t1, a1), (t2, a2), (t3, a3), (t4, a4), (t5, a5), (t6, a6), (t7, a7), (t8, a8), (t9, a9), (t10, a10), (t11, a11), (t12, a12), (t13, a13), (t14, a14), (t15, a15), (t16, a16), (t17, a17), (t18, a18), (t19, a19), (t20, a20), (t21, a21), (t22, a22), (t23, a23)])
  upd := fun l as v => V24.casesOn v (fun a0 a1 a2 a3 a4 a5 a6 a7 a8 a9 a10 a11 a12 a13 a14 a15 a16 a17 a18 a19 a20 a21 a22 a23 => V24.mk (updV l as t0 a0) (updV l as t1 a1) (updV l as t2 a2) (updV l as t3 a3) (updV l as t4 a4) (updV l as t5 a5) (updV l as t6 a6) (updV l as t7 a7) (updV l as t8 a8) (updV l as t9 a9) (updV l as t10 a10) (updV l as t11 a11) (updV l as t12 a12) (updV l as t13 a13) (updV l as t14 a14) (updV l as t15 a15) (updV l as t16 a16) (updV l as t17 a17) (updV l as t18 a18) (updV l as t19 a19) (updV l as t20 a20) (updV l as t21 a21) (updV l as t22 a22) (updV l as t23 a23))
  ent := fun g => V24.mk (g t0) (g t1) (g t2) (g t3) (g t4) (g t5) (g t6) (g t7) (g t8) (g t9) (g t10) (g t11) (g t12) (g t13) (g t14) (g t15) (g t16) (g t17) (g t18) (g t19) (g t20) (g t21) (g t22) (g t23)
  keys := fun _ => rfl
  law := fun _ _ _ => rfl
  start := fun _ => rfl
structure V27 where
  a0 : Value
  a1 : Value
  a2 : Value
  a3 : Value
  a4 : Value
  a5 : Value
  a6 : Value
  a7 : Value
  a8 : Value
  a9 : Value
  a10 : Value
  a11 : Value
  a12 : Value
  a13 : Value
  a14 : Value
  a15 : Value
  a16 : Value
  a17 : Value
  a18 : Value
  a19 : Value
  a20 : Value
  a21 : Value
  a22 : Value
  a23 : Value
  a24 : Value
  a25 : Value
  a26 : Value
def ft27 (t0 t1 t2 t3 t4 t5 t6 t7 t8 t9 t10 t11 t12 t13 t14 t15 t16 t17 t18 t19 t20 t21 t22 t23 t24 t25 t26 : Nat) : FT V27 where
  K := [t0, t1, t2, t3, t4, t5, t6, t7, t8, t9, t10, t11, t12, t13, t14, t15, t16, t17, t18, t19, t20, t21, t22, t23, t24, t25, t26]
  env := fun v => V27.casesOn v (fun a0 a1 a2 a3 a4 a5 a6 a7 a8 a9 a10 a11 a12 a13 a14 a15 a16 a17 a18 a19 a20 a21 a22 a23 a24 a25 a26 => [(t0, a0), (t1, a1), (t2, a2), (t3, a3), (t4, a4), (t5, a5), (t6, a6), (t7, a7), (t8, a8), (t9, a9), (t10, a10), (t11, a11), (t12, a12), (t13, a13), (t14, a14), (t15, a15), (t16, a16), (t17, a17), (t18, a18), (t19, a19), (t20, a20), (t21, a21), (t22, a22), (t23, a23), (t24, a24), (t25, a25), (t26, a26)])
  upd := fun l as v => V27.casesOn v (fun a0 a1 a2 a3 a4 a5 a6 a7 a8 a9 a10 a11 a12 a13 a14 a15 a16 a17 a18 a19 a20 a21 a22 a23 a24 a25 a26 => V27.mk (updV l as t0 a0) (updV l as t1 a1) (updV l as t2 a2) (updV l as t3 a3) (updV l as t4 a4) (updV l as t5 a5) (updV l as t6 a6) (updV l as t7 a7) (updV l as t8 a8) (updV l as t9 a9) (updV l as t10 a10) (updV l as t11 a11) (updV l as t12 a12) (updV l as t13 a13) (updV l as t14 a14) (updV l as t15 a15) (updV l as t16 a16) (updV l as t17 a17) (updV l as t18 a18) (updV l as t19 a19) (updV l as t20 a20) (updV l as t21 a21) (updV l as t22 a22) (updV l as t23 a23) (updV l as t24 a24) (updV l as t25 a25) (updV l as t26 a26))
  ent := fun g => V27.mk (g t0) (g t1) (g t2) (g t3) (g t4) (g t5) (g t6) (g t7) (g t8) (g t9) (g t10) (g t11) (g t12) (g t13) (g t14) (g t15) (g t16) (g t17) (g t18) (g t19) (g t20) (g t21) (g t22) (g t23) (g t24) (g t25) (g t26)
  keys := fun _ => rfl
  law := fun _ _ _ => rfl
  start := fun _ => rfl
end Go.Proofs.YtbngpadibllogaaGreatDoor.Ev
