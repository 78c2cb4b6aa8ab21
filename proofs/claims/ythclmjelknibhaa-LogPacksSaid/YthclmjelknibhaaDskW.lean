/- Frames of so many slots. -/
import Derived.Test.YthclmjelknibhaaEvU9
namespace Go.Proofs.Ythclmjelknibhaa.Ev
open Go Go.RowKit
set_option linter.unusedVariables false
noncomputable section
structure W0 where
def fu0 : FU W0 where
  K := []
  env := fun v => W0.rec (motive := fun _ => List (Nat × FV)) ([]) v
  upd := fun l as v => W0.rec (motive := fun _ => W0) (W0.mk ) v
  ent := fun g => W0.mk 
  keys := fun _ => rfl
  law := fun _ _ _ => rfl
  start := fun _ => rfl
def m0 (f : FAW → (FAW → RU) → RU) : CdU W0 := fun v S κ => W0.rec (motive := fun _ => RU) (f S fun S => κ .normal (.mk ) S) v
def k0 (f : FV) : W0 → FV := fun v => W0.rec (motive := fun _ => FV) (f) v
theorem m0_mk (f : FAW → (FAW → RU) → RU) (S : FAW) (κ : EX → W0 → FAW → RU) : m0 f (.mk ) S κ = f S fun S => κ .normal (.mk ) S := rfl
theorem k0_mk (f : FV) : k0 f (.mk ) = f  := rfl
structure W2 where
  a0 : FV
  a1 : FV
def fu2 (t0 t1 : Nat) : FU W2 where
  K := [t0, t1]
  env := fun v => W2.rec (motive := fun _ => List (Nat × FV)) (fun a0 a1 => [(t0, a0), (t1, a1)]) v
  upd := fun l as v => W2.rec (motive := fun _ => W2) (fun a0 a1 => W2.mk (updU l as t0 a0) (updU l as t1 a1)) v
  ent := fun g => W2.mk (g t0) (g t1)
  keys := fun _ => rfl
  law := fun _ _ _ => rfl
  start := fun _ => rfl
def m2 (f : FV → FV → FAW → (FV → FV → FAW → RU) → RU) : CdU W2 := fun v S κ => W2.rec (motive := fun _ => RU) (fun a0 a1 => f a0 a1 S fun b0 b1 S => κ .normal (.mk b0 b1) S) v
def k2 (f : FV → FV → FV) : W2 → FV := fun v => W2.rec (motive := fun _ => FV) (f) v
theorem m2_mk (f : FV → FV → FAW → (FV → FV → FAW → RU) → RU) (a0 a1 : FV) (S : FAW) (κ : EX → W2 → FAW → RU) : m2 f (.mk a0 a1 ) S κ = f a0 a1 S fun b0 b1 S => κ .normal (.mk b0 b1) S := rfl
theorem k2_mk (f : FV → FV → FV) (a0 a1 : FV) : k2 f (.mk a0 a1 ) = f a0 a1  := rfl
structure W3 where
  a0 : FV
  a1 : FV
  a2 : FV
def fu3 (t0 t1 t2 : Nat) : FU W3 where
  K := [t0, t1, t2]
  env := fun v => W3.rec (motive := fun _ => List (Nat × FV)) (fun a0 a1 a2 => [(t0, a0), (t1, a1), (t2, a2)]) v
  upd := fun l as v => W3.rec (motive := fun _ => W3) (fun a0 a1 a2 => W3.mk (updU l as t0 a0) (updU l as t1 a1) (updU l as t2 a2)) v
  ent := fun g => W3.mk (g t0) (g t1) (g t2)
  keys := fun _ => rfl
  law := fun _ _ _ => rfl
  start := fun _ => rfl
def m3 (f : FV → FV → FV → FAW → (FV → FV → FV → FAW → RU) → RU) : CdU W3 := fun v S κ => W3.rec (motive := fun _ => RU) (fun a0 a1 a2 => f a0 a1 a2 S fun b0 b1 b2 S => κ .normal (.mk b0 b1 b2) S) v
def k3 (f : FV → FV → FV → FV) : W3 → FV := fun v => W3.rec (motive := fun _ => FV) (f) v
theorem m3_mk (f : FV → FV → FV → FAW → (FV → FV → FV → FAW → RU) → RU) (a0 a1 a2 : FV) (S : FAW) (κ : EX → W3 → FAW → RU) : m3 f (.mk a0 a1 a2 ) S κ = f a0 a1 a2 S fun b0 b1 b2 S => κ .normal (.mk b0 b1 b2) S := rfl
theorem k3_mk (f : FV → FV → FV → FV) (a0 a1 a2 : FV) : k3 f (.mk a0 a1 a2 ) = f a0 a1 a2  := rfl
structure W4 where
  a0 : FV
  a1 : FV
  a2 : FV
  a3 : FV
def fu4 (t0 t1 t2 t3 : Nat) : FU W4 where
  K := [t0, t1, t2, t3]
  env := fun v => W4.rec (motive := fun _ => List (Nat × FV)) (fun a0 a1 a2 a3 => [(t0, a0), (t1, a1), (t2, a2), (t3, a3)]) v
  upd := fun l as v => W4.rec (motive := fun _ => W4) (fun a0 a1 a2 a3 => W4.mk (updU l as t0 a0) (updU l as t1 a1) (updU l as t2 a2) (updU l as t3 a3)) v
  ent := fun g => W4.mk (g t0) (g t1) (g t2) (g t3)
  keys := fun _ => rfl
  law := fun _ _ _ => rfl
  start := fun _ => rfl
def m4 (f : FV → FV → FV → FV → FAW → (FV → FV → FV → FV → FAW → RU) → RU) : CdU W4 := fun v S κ => W4.rec (motive := fun _ => RU) (fun a0 a1 a2 a3 => f a0 a1 a2 a3 S fun b0 b1 b2 b3 S => κ .normal (.mk b0 b1 b2 b3) S) v
def k4 (f : FV → FV → FV → FV → FV) : W4 → FV := fun v => W4.rec (motive := fun _ => FV) (f) v
theorem m4_mk (f : FV → FV → FV → FV → FAW → (FV → FV → FV → FV → FAW → RU) → RU) (a0 a1 a2 a3 : FV) (S : FAW) (κ : EX → W4 → FAW → RU) : m4 f (.mk a0 a1 a2 a3 ) S κ = f a0 a1 a2 a3 S fun b0 b1 b2 b3 S => κ .normal (.mk b0 b1 b2 b3) S := rfl
theorem k4_mk (f : FV → FV → FV → FV → FV) (a0 a1 a2 a3 : FV) : k4 f (.mk a0 a1 a2 a3 ) = f a0 a1 a2 a3  := rfl
structure W5 where
  a0 : FV
  a1 : FV
  a2 : FV
  a3 : FV
  a4 : FV
def fu5 (t0 t1 t2 t3 t4 : Nat) : FU W5 where
  K := [t0, t1, t2, t3, t4]
  env := fun v => W5.rec (motive := fun _ => List (Nat × FV)) (fun a0 a1 a2 a3 a4 => [(t0, a0), (t1, a1), (t2, a2), (t3, a3), (t4, a4)]) v
  upd := fun l as v => W5.rec (motive := fun _ => W5) (fun a0 a1 a2 a3 a4 => W5.mk (updU l as t0 a0) (updU l as t1 a1) (updU l as t2 a2) (updU l as t3 a3) (updU l as t4 a4)) v
  ent := fun g => W5.mk (g t0) (g t1) (g t2) (g t3) (g t4)
  keys := fun _ => rfl
  law := fun _ _ _ => rfl
  start := fun _ => rfl
def m5 (f : FV → FV → FV → FV → FV → FAW → (FV → FV → FV → FV → FV → FAW → RU) → RU) : CdU W5 := fun v S κ => W5.rec (motive := fun _ => RU) (fun a0 a1 a2 a3 a4 => f a0 a1 a2 a3 a4 S fun b0 b1 b2 b3 b4 S => κ .normal (.mk b0 b1 b2 b3 b4) S) v
def k5 (f : FV → FV → FV → FV → FV → FV) : W5 → FV := fun v => W5.rec (motive := fun _ => FV) (f) v
theorem m5_mk (f : FV → FV → FV → FV → FV → FAW → (FV → FV → FV → FV → FV → FAW → RU) → RU) (a0 a1 a2 a3 a4 : FV) (S : FAW) (κ : EX → W5 → FAW → RU) : m5 f (.mk a0 a1 a2 a3 a4 ) S κ = f a0 a1 a2 a3 a4 S fun b0 b1 b2 b3 b4 S => κ .normal (.mk b0 b1 b2 b3 b4) S := rfl
theorem k5_mk (f : FV → FV → FV → FV → FV → FV) (a0 a1 a2 a3 a4 : FV) : k5 f (.mk a0 a1 a2 a3 a4 ) = f a0 a1 a2 a3 a4  := rfl
structure W6 where
  a0 : FV
  a1 : FV
  a2 : FV
  a3 : FV
  a4 : FV
  a5 : FV
def fu6 (t0 t1 t2 t3 t4 t5 : Nat) : FU W6 where
  K := [t0, t1, t2, t3, t4, t5]
  env := fun v => W6.rec (motive := fun _ => List (Nat × FV)) (fun a0 a1 a2 a3 a4 a5 => [(t0, a0), (t1, a1), (t2, a2), (t3, a3), (t4, a4), (t5, a5)]) v
  upd := fun l as v => W6.rec (motive := fun _ => W6) (fun a0 a1 a2 a3 a4 a5 => W6.mk (updU l as t0 a0) (updU l as t1 a1) (updU l as t2 a2) (updU l as t3 a3) (updU l as t4 a4) (updU l as t5 a5)) v
  ent := fun g => W6.mk (g t0) (g t1) (g t2) (g t3) (g t4) (g t5)
  keys := fun _ => rfl
  law := fun _ _ _ => rfl
  start := fun _ => rfl
def m6 (f : FV → FV → FV → FV → FV → FV → FAW → (FV → FV → FV → FV → FV → FV → FAW → RU) → RU) : CdU W6 := fun v S κ => W6.rec (motive := fun _ => RU) (fun a0 a1 a2 a3 a4 a5 => f a0 a1 a2 a3 a4 a5 S fun b0 b1 b2 b3 b4 b5 S => κ .normal (.mk b0 b1 b2 b3 b4 b5) S) v
def k6 (f : FV → FV → FV → FV → FV → FV → FV) : W6 → FV := fun v => W6.rec (motive := fun _ => FV) (f) v
theorem m6_mk (f : FV → FV → FV → FV → FV → FV → FAW → (FV → FV → FV → FV → FV → FV → FAW → RU) → RU) (a0 a1 a2 a3 a4 a5 : FV) (S : FAW) (κ : EX → W6 → FAW → RU) : m6 f (.mk a0 a1 a2 a3 a4 a5 ) S κ = f a0 a1 a2 a3 a4 a5 S fun b0 b1 b2 b3 b4 b5 S => κ .normal (.mk b0 b1 b2 b3 b4 b5) S := rfl
theorem k6_mk (f : FV → FV → FV → FV → FV → FV → FV) (a0 a1 a2 a3 a4 a5 : FV) : k6 f (.mk a0 a1 a2 a3 a4 a5 ) = f a0 a1 a2 a3 a4 a5  := rfl
structure W7 where
  a0 : FV
  a1 : FV
  a2 : FV
  a3 : FV
  a4 : FV
  a5 : FV
  a6 : FV
def fu7 (t0 t1 t2 t3 t4 t5 t6 : Nat) : FU W7 where
  K := [t0, t1, t2, t3, t4, t5, t6]
  env := fun v => W7.rec (motive := fun _ => List (Nat × FV)) (fun a0 a1 a2 a3 a4 a5 a6 => [(t0, a0), (t1, a1), (t2, a2), (t3, a3), (t4, a4), (t5, a5), (t6, a6)]) v
  upd := fun l as v => W7.rec (motive := fun _ => W7) (fun a0 a1 a2 a3 a4 a5 a6 => W7.mk (updU l as t0 a0) (updU l as t1 a1) (updU l as t2 a2) (updU l as t3 a3) (updU l as t4 a4) (updU l as t5 a5) (updU l as t6 a6)) v
  ent := fun g => W7.mk (g t0) (g t1) (g t2) (g t3) (g t4) (g t5) (g t6)
  keys := fun _ => rfl
  law := fun _ _ _ => rfl
  start := fun _ => rfl
def m7 (f : FV → FV → FV → FV → FV → FV → FV → FAW → (FV → FV → FV → FV → FV → FV → FV → FAW → RU) → RU) : CdU W7 := fun v S κ => W7.rec (motive := fun _ => RU) (fun a0 a1 a2 a3 a4 a5 a6 => f a0 a1 a2 a3 a4 a5 a6 S fun b0 b1 b2 b3 b4 b5 b6 S => κ .normal (.mk b0 b1 b2 b3 b4 b5 b6) S) v
def k7 (f : FV → FV → FV → FV → FV → FV → FV → FV) : W7 → FV := fun v => W7.rec (motive := fun _ => FV) (f) v
theorem m7_mk (f : FV → FV → FV → FV → FV → FV → FV → FAW → (FV → FV → FV → FV → FV → FV → FV → FAW → RU) → RU) (a0 a1 a2 a3 a4 a5 a6 : FV) (S : FAW) (κ : EX → W7 → FAW → RU) : m7 f (.mk a0 a1 a2 a3 a4 a5 a6 ) S κ = f a0 a1 a2 a3 a4 a5 a6 S fun b0 b1 b2 b3 b4 b5 b6 S => κ .normal (.mk b0 b1 b2 b3 b4 b5 b6) S := rfl
theorem k7_mk (f : FV → FV → FV → FV → FV → FV → FV → FV) (a0 a1 a2 a3 a4 a5 a6 : FV) : k7 f (.mk a0 a1 a2 a3 a4 a5 a6 ) = f a0 a1 a2 a3 a4 a5 a6  := rfl
structure W8 where
  a0 : FV
  a1 : FV
  a2 : FV
  a3 : FV
  a4 : FV
  a5 : FV
  a6 : FV
  a7 : FV
def fu8 (t0 t1 t2 t3 t4 t5 t6 t7 : Nat) : FU W8 where
  K := [t0, t1, t2, t3, t4, t5, t6, t7]
  env := fun v => W8.rec (motive := fun _ => List (Nat × FV)) (fun a0 a1 a2 a3 a4 a5 a6 a7 => [(t0, a0), (t1, a1), (t2, a2), (t3, a3), (t4, a4), (t5, a5), (t6, a6), (t7, a7)]) v
  upd := fun l as v => W8.rec (motive := fun _ => W8) (fun a0 a1 a2 a3 a4 a5 a6 a7 => W8.mk (updU l as t0 a0) (updU l as t1 a1) (updU l as t2 a2) (updU l as t3 a3) (updU l as t4 a4) (updU l as t5 a5) (updU l as t6 a6) (updU l as t7 a7)) v
  ent := fun g => W8.mk (g t0) (g t1) (g t2) (g t3) (g t4) (g t5) (g t6) (g t7)
  keys := fun _ => rfl
  law := fun _ _ _ => rfl
  start := fun _ => rfl
def m8 (f : FV → FV → FV → FV → FV → FV → FV → FV → FAW → (FV → FV → FV → FV → FV → FV → FV → FV → FAW → RU) → RU) : CdU W8 := fun v S κ => W8.rec (motive := fun _ => RU) (fun a0 a1 a2 a3 a4 a5 a6 a7 => f a0 a1 a2 a3 a4 a5 a6 a7 S fun b0 b1 b2 b3 b4 b5 b6 b7 S => κ .normal (.mk b0 b1 b2 b3 b4 b5 b6 b7) S) v
def k8 (f : FV → FV → FV → FV → FV → FV → FV → FV → FV) : W8 → FV := fun v => W8.rec (motive := fun _ => FV) (f) v
theorem m8_mk (f : FV → FV → FV → FV → FV → FV → FV → FV → FAW → (FV → FV → FV → FV → FV → FV → FV → FV → FAW → RU) → RU) (a0 a1 a2 a3 a4 a5 a6 a7 : FV) (S : FAW) (κ : EX → W8 → FAW → RU) : m8 f (.mk a0 a1 a2 a3 a4 a5 a6 a7 ) S κ = f a0 a1 a2 a3 a4 a5 a6 a7 S fun b0 b1 b2 b3 b4 b5 b6 b7 S => κ .normal (.mk b0 b1 b2 b3 b4 b5 b6 b7) S := rfl
theorem k8_mk (f : FV → FV → FV → FV → FV → FV → FV → FV → FV) (a0 a1 a2 a3 a4 a5 a6 a7 : FV) : k8 f (.mk a0 a1 a2 a3 a4 a5 a6 a7 ) = f a0 a1 a2 a3 a4 a5 a6 a7  := rfl
structure W9 where
  a0 : FV
  a1 : FV
  a2 : FV
  a3 : FV
  a4 : FV
  a5 : FV
  a6 : FV
  a7 : FV
  a8 : FV
def fu9 (t0 t1 t2 t3 t4 t5 t6 t7 t8 : Nat) : FU W9 where
  K := [t0, t1, t2, t3, t4, t5, t6, t7, t8]
  env := fun v => W9.rec (motive := fun _ => List (Nat × FV)) (fun a0 a1 a2 a3 a4 a5 a6 a7 a8 => [(t0, a0), (t1, a1), (t2, a2), (t3, a3), (t4, a4), (t5, a5), (t6, a6), (t7, a7), (t8, a8)]) v
  upd := fun l as v => W9.rec (motive := fun _ => W9) (fun a0 a1 a2 a3 a4 a5 a6 a7 a8 => W9.mk (updU l as t0 a0) (updU l as t1 a1) (updU l as t2 a2) (updU l as t3 a3) (updU l as t4 a4) (updU l as t5 a5) (updU l as t6 a6) (updU l as t7 a7) (updU l as t8 a8)) v
  ent := fun g => W9.mk (g t0) (g t1) (g t2) (g t3) (g t4) (g t5) (g t6) (g t7) (g t8)
  keys := fun _ => rfl
  law := fun _ _ _ => rfl
  start := fun _ => rfl
def m9 (f : FV → FV → FV → FV → FV → FV → FV → FV → FV → FAW → (FV → FV → FV → FV → FV → FV → FV → FV → FV → FAW → RU) → RU) : CdU W9 := fun v S κ => W9.rec (motive := fun _ => RU) (fun a0 a1 a2 a3 a4 a5 a6 a7 a8 => f a0 a1 a2 a3 a4 a5 a6 a7 a8 S fun b0 b1 b2 b3 b4 b5 b6 b7 b8 S => κ .normal (.mk b0 b1 b2 b3 b4 b5 b6 b7 b8) S) v
def k9 (f : FV → FV → FV → FV → FV → FV → FV → FV → FV → FV) : W9 → FV := fun v => W9.rec (motive := fun _ => FV) (f) v
theorem m9_mk (f : FV → FV → FV → FV → FV → FV → FV → FV → FV → FAW → (FV → FV → FV → FV → FV → FV → FV → FV → FV → FAW → RU) → RU) (a0 a1 a2 a3 a4 a5 a6 a7 a8 : FV) (S : FAW) (κ : EX → W9 → FAW → RU) : m9 f (.mk a0 a1 a2 a3 a4 a5 a6 a7 a8 ) S κ = f a0 a1 a2 a3 a4 a5 a6 a7 a8 S fun b0 b1 b2 b3 b4 b5 b6 b7 b8 S => κ .normal (.mk b0 b1 b2 b3 b4 b5 b6 b7 b8) S := rfl
theorem k9_mk (f : FV → FV → FV → FV → FV → FV → FV → FV → FV → FV) (a0 a1 a2 a3 a4 a5 a6 a7 a8 : FV) : k9 f (.mk a0 a1 a2 a3 a4 a5 a6 a7 a8 ) = f a0 a1 a2 a3 a4 a5 a6 a7 a8  := rfl
structure W11 where
  a0 : FV
  a1 : FV
  a2 : FV
  a3 : FV
  a4 : FV
  a5 : FV
  a6 : FV
  a7 : FV
  a8 : FV
  a9 : FV
  a10 : FV
def fu11 (t0 t1 t2 t3 t4 t5 t6 t7 t8 t9 t10 : Nat) : FU W11 where
  K := [t0, t1, t2, t3, t4, t5, t6, t7, t8, t9, t10]
  env := fun v => W11.rec (motive := fun _ => List (Nat × FV)) (fun a0 a1 a2 a3 a4 a5 a6 a7 a8 a9 a10 => [(t0, a0), (t1, a1), (t2, a2), (t3, a3), (t4, a4), (t5, a5), (t6, a6), (t7, a7), (t8, a8), (t9, a9), (t10, a10)]) v
  upd := fun l as v => W11.rec (motive := fun _ => W11) (fun a0 a1 a2 a3 a4 a5 a6 a7 a8 a9 a10 => W11.mk (updU l as t0 a0) (updU l as t1 a1) (updU l as t2 a2) (updU l as t3 a3) (updU l as t4 a4) (updU l as t5 a5) (updU l as t6 a6) (updU l as t7 a7) (updU l as t8 a8) (updU l as t9 a9) (updU l as t10 a10)) v
  ent := fun g => W11.mk (g t0) (g t1) (g t2) (g t3) (g t4) (g t5) (g t6) (g t7) (g t8) (g t9) (g t10)
  keys := fun _ => rfl
  law := fun _ _ _ => rfl
  start := fun _ => rfl
def m11 (f : FV → FV → FV → FV → FV → FV → FV → FV → FV → FV → FV → FAW → (FV → FV → FV → FV → FV → FV → FV → FV → FV → FV → FV → FAW → RU) → RU) : CdU W11 := fun v S κ => W11.rec (motive := fun _ => RU) (fun a0 a1 a2 a3 a4 a5 a6 a7 a8 a9 a10 => f a0 a1 a2 a3 a4 a5 a6 a7 a8 a9 a10 S fun b0 b1 b2 b3 b4 b5 b6 b7 b8 b9 b10 S => κ .normal (.mk b0 b1 b2 b3 b4 b5 b6 b7 b8 b9 b10) S) v
def k11 (f : FV → FV → FV → FV → FV → FV → FV → FV → FV → FV → FV → FV) : W11 → FV := fun v => W11.rec (motive := fun _ => FV) (f) v
theorem m11_mk (f : FV → FV → FV → FV → FV → FV → FV → FV → FV → FV → FV → FAW → (FV → FV → FV → FV → FV → FV → FV → FV → FV → FV → FV → FAW → RU) → RU) (a0 a1 a2 a3 a4 a5 a6 a7 a8 a9 a10 : FV) (S : FAW) (κ : EX → W11 → FAW → RU) : m11 f (.mk a0 a1 a2 a3 a4 a5 a6 a7 a8 a9 a10 ) S κ = f a0 a1 a2 a3 a4 a5 a6 a7 a8 a9 a10 S fun b0 b1 b2 b3 b4 b5 b6 b7 b8 b9 b10 S => κ .normal (.mk b0 b1 b2 b3 b4 b5 b6 b7 b8 b9 b10) S := rfl
theorem k11_mk (f : FV → FV → FV → FV → FV → FV → FV → FV → FV → FV → FV → FV) (a0 a1 a2 a3 a4 a5 a6 a7 a8 a9 a10 : FV) : k11 f (.mk a0 a1 a2 a3 a4 a5 a6 a7 a8 a9 a10 ) = f a0 a1 a2 a3 a4 a5 a6 a7 a8 a9 a10  := rfl
structure W12 where
  a0 : FV
  a1 : FV
  a2 : FV
  a3 : FV
  a4 : FV
  a5 : FV
  a6 : FV
  a7 : FV
  a8 : FV
  a9 : FV
  a10 : FV
  a11 : FV
def fu12 (t0 t1 t2 t3 t4 t5 t6 t7 t8 t9 t10 t11 : Nat) : FU W12 where
  K := [t0, t1, t2, t3, t4, t5, t6, t7, t8, t9, t10, t11]
  env := fun v => W12.rec (motive := fun _ => List (Nat × FV)) (fun a0 a1 a2 a3 a4 a5 a6 a7 a8 a9 a10 a11 => [(t0, a0), (t1, a1), (t2, a2), (t3, a3), (t4, a4), (t5, a5), (t6, a6), (t7, a7), (t8, a8), (t9, a9), (t10, a10), (t11, a11)]) v
  upd := fun l as v => W12.rec (motive := fun _ => W12) (fun a0 a1 a2 a3 a4 a5 a6 a7 a8 a9 a10 a11 => W12.mk (updU l as t0 a0) (updU l as t1 a1) (updU l as t2 a2) (updU l as t3 a3) (updU l as t4 a4) (updU l as t5 a5) (updU l as t6 a6) (updU l as t7 a7) (updU l as t8 a8) (updU l as t9 a9) (updU l as t10 a10) (updU l as t11 a11)) v
  ent := fun g => W12.mk (g t0) (g t1) (g t2) (g t3) (g t4) (g t5) (g t6) (g t7) (g t8) (g t9) (g t10) (g t11)
  keys := fun _ => rfl
  law := fun _ _ _ => rfl
  start := fun _ => rfl
def m12 (f : FV → FV → FV → FV → FV → FV → FV → FV → FV → FV → FV → FV → FAW → (FV → FV → FV → FV → FV → FV → FV → FV → FV → FV → FV → FV → FAW → RU) → RU) : CdU W12 := fun v S κ => W12.rec (motive := fun _ => RU) (fun a0 a1 a2 a3 a4 a5 a6 a7 a8 a9 a10 a11 => f a0 a1 a2 a3 a4 a5 a6 a7 a8 a9 a10 a11 S fun b0 b1 b2 b3 b4 b5 b6 b7 b8 b9 b10 b11 S => κ .normal (.mk b0 b1 b2 b3 b4 b5 b6 b7 b8 b9 b10 b11) S) v
def k12 (f : FV → FV → FV → FV → FV → FV → FV → FV → FV → FV → FV → FV → FV) : W12 → FV := fun v => W12.rec (motive := fun _ => FV) (f) v
theorem m12_mk (f : FV → FV → FV → FV → FV → FV → FV → FV → FV → FV → FV → FV → FAW → (FV → FV → FV → FV → FV → FV → FV → FV → FV → FV → FV → FV → FAW → RU) → RU) (a0 a1 a2 a3 a4 a5 a6 a7 a8 a9 a10 a11 : FV) (S : FAW) (κ : EX → W12 → FAW → RU) : m12 f (.mk a0 a1 a2 a3 a4 a5 a6 a7 a8 a9 a10 a11 ) S κ = f a0 a1 a2 a3 a4 a5 a6 a7 a8 a9 a10 a11 S fun b0 b1 b2 b3 b4 b5 b6 b7 b8 b9 b10 b11 S => κ .normal (.mk b0 b1 b2 b3 b4 b5 b6 b7 b8 b9 b10 b11) S := rfl
theorem k12_mk (f : FV → FV → FV → FV → FV → FV → FV → FV → FV → FV → FV → FV → FV) (a0 a1 a2 a3 a4 a5 a6 a7 a8 a9 a10 a11 : FV) : k12 f (.mk a0 a1 a2 a3 a4 a5 a6 a7 a8 a9 a10 a11 ) = f a0 a1 a2 a3 a4 a5 a6 a7 a8 a9 a10 a11  := rfl
structure W14 where
  a0 : FV
  a1 : FV
  a2 : FV
  a3 : FV
  a4 : FV
  a5 : FV
  a6 : FV
  a7 : FV
  a8 : FV
  a9 : FV
  a10 : FV
  a11 : FV
  a12 : FV
  a13 : FV
def fu14 (t0 t1 t2 t3 t4 t5 t6 t7 t8 t9 t10 t11 t12 t13 : Nat) : FU W14 where
  K := [t0, t1, t2, t3, t4, t5, t6, t7, t8, t9, t10, t11, t12, t13]
  env := fun v => W14.rec (motive := fun _ => List (Nat × FV)) (fun a0 a1 a2 a3 a4 a5 a6 a7 a8 a9 a10 a11 a12 a13 => [(t0, a0), (t1, a1), (t2, a2), (t3, a3), (t4, a4), (t5, a5), (t6, a6), (t7, a7), (t8, a8), (t9, a9), (t10, a10), (t11, a11), (t12, a12), (t13, a13)]) v
  upd := fun l as v => W14.rec (motive := fun _ => W14) (fun a0 a1 a2 a3 a4 a5 a6 a7 a8 a9 a10 a11 a12 a13 => W14.mk (updU l as t0 a0) (updU l as t1 a1) (updU l as t2 a2) (updU l as t3 a3) (updU l as t4 a4) (updU l as t5 a5) (updU l as t6 a6) (updU l as t7 a7) (updU l as t8 a8) (updU l as t9 a9) (updU l as t10 a10) (updU l as t11 a11) (updU l as t12 a12) (updU l as t13 a13)) v
  ent := fun g => W14.mk (g t0) (g t1) (g t2) (g t3) (g t4) (g t5) (g t6) (g t7) (g t8) (g t9) (g t10) (g t11) (g t12) (g t13)
  keys := fun _ => rfl
  law := fun _ _ _ => rfl
  start := fun _ => rfl
def m14 (f : FV → FV → FV → FV → FV → FV → FV → FV → FV → FV → FV → FV → FV → FV → FAW → (FV → FV → FV → FV → FV → FV → FV → FV → FV → FV → FV → FV → FV → FV → FAW → RU) → RU) : CdU W14 := fun v S κ => W14.rec (motive := fun _ => RU) (fun a0 a1 a2 a3 a4 a5 a6 a7 a8 a9 a10 a11 a12 a13 => f a0 a1 a2 a3 a4 a5 a6 a7 a8 a9 a10 a11 a12 a13 S fun b0 b1 b2 b3 b4 b5 b6 b7 b8 b9 b10 b11 b12 b13 S => κ .normal (.mk b0 b1 b2 b3 b4 b5 b6 b7 b8 b9 b10 b11 b12 b13) S) v
def k14 (f : FV → FV → FV → FV → FV → FV → FV → FV → FV → FV → FV → FV → FV → FV → FV) : W14 → FV := fun v => W14.rec (motive := fun _ => FV) (f) v
theorem m14_mk (f : FV → FV → FV → FV → FV → FV → FV → FV → FV → FV → FV → FV → FV → FV → FAW → (FV → FV → FV → FV → FV → FV → FV → FV → FV → FV → FV → FV → FV → FV → FAW → RU) → RU) (a0 a1 a2 a3 a4 a5 a6 a7 a8 a9 a10 a11 a12 a13 : FV) (S : FAW) (κ : EX → W14 → FAW → RU) : m14 f (.mk a0 a1 a2 a3 a4 a5 a6 a7 a8 a9 a10 a11 a12 a13 ) S κ = f a0 a1 a2 a3 a4 a5 a6 a7 a8 a9 a10 a11 a12 a13 S fun b0 b1 b2 b3 b4 b5 b6 b7 b8 b9 b10 b11 b12 b13 S => κ .normal (.mk b0 b1 b2 b3 b4 b5 b6 b7 b8 b9 b10 b11 b12 b13) S := rfl
theorem k14_mk (f : FV → FV → FV → FV → FV → FV → FV → FV → FV → FV → FV → FV → FV → FV → FV) (a0 a1 a2 a3 a4 a5 a6 a7 a8 a9 a10 a11 a12 a13 : FV) : k14 f (.mk a0 a1 a2 a3 a4 a5 a6 a7 a8 a9 a10 a11 a12 a13 ) = f a0 a1 a2 a3 a4 a5 a6 a7 a8 a9 a10 a11 a12 a13  := rfl
structure W15 where
  a0 : FV
  a1 : FV
  a2 : FV
  a3 : FV
  a4 : FV
  a5 : FV
  a6 : FV
  a7 : FV
  a8 : FV
  a9 : FV
  a10 : FV
  a11 : FV
  a12 : FV
  a13 : FV
  a14 : FV
def fu15 (t0 t1 t2 t3 t4 t5 t6 t7 t8 t9 t10 t11 t12 t13 t14 : Nat) : FU W15 where
  K := [t0, t1, t2, t3, t4, t5, t6, t7, t8, t9, t10, t11, t12, t13, t14]
  env := fun v => W15.rec (motive := fun _ => List (Nat × FV)) (fun a0 a1 a2 a3 a4 a5 a6 a7 a8 a9 a10 a11 a12 a13 a14 => [(t0, a0), (t1, a1), (t2, a2), (t3, a3), (t4, a4), (t5, a5), (t6, a6), (t7, a7), (t8, a8), (t9, a9), (t10, a10), (t11, a11), (t12, a12), (t13, a13), (t14, a14)]) v
  upd := fun l as v => W15.rec (motive := fun _ => W15) (fun a0 a1 a2 a3 a4 a5 a6 a7 a8 a9 a10 a11 a12 a13 a14 => W15.mk (updU l as t0 a0) (updU l as t1 a1) (updU l as t2 a2) (updU l as t3 a3) (updU l as t4 a4) (updU l as t5 a5) (updU l as t6 a6) (updU l as t7 a7) (updU l as t8 a8) (updU l as t9 a9) (updU l as t10 a10) (updU l as t11 a11) (updU l as t12 a12) (updU l as t13 a13) (updU l as t14 a14)) v
  ent := fun g => W15.mk (g t0) (g t1) (g t2) (g t3) (g t4) (g t5) (g t6) (g t7) (g t8) (g t9) (g t10) (g t11) (g t12) (g t13) (g t14)
  keys := fun _ => rfl
  law := fun _ _ _ => rfl
  start := fun _ => rfl
def m15 (f : FV → FV → FV → FV → FV → FV → FV → FV → FV → FV → FV → FV → FV → FV → FV → FAW → (FV → FV → FV → FV → FV → FV → FV → FV → FV → FV → FV → FV → FV → FV → FV → FAW → RU) → RU) : CdU W15 := fun v S κ => W15.rec (motive := fun _ => RU) (fun a0 a1 a2 a3 a4 a5 a6 a7 a8 a9 a10 a11 a12 a13 a14 => f a0 a1 a2 a3 a4 a5 a6 a7 a8 a9 a10 a11 a12 a13 a14 S fun b0 b1 b2 b3 b4 b5 b6 b7 b8 b9 b10 b11 b12 b13 b14 S => κ .normal (.mk b0 b1 b2 b3 b4 b5 b6 b7 b8 b9 b10 b11 b12 b13 b14) S) v
def k15 (f : FV → FV → FV → FV → FV → FV → FV → FV → FV → FV → FV → FV → FV → FV → FV → FV) : W15 → FV := fun v => W15.rec (motive := fun _ => FV) (f) v
theorem m15_mk (f : FV → FV → FV → FV → FV → FV → FV → FV → FV → FV → FV → FV → FV → FV → FV → FAW → (FV → FV → FV → FV → FV → FV → FV → FV → FV → FV → FV → FV → FV → FV → FV → FAW → RU) → RU) (a0 a1 a2 a3 a4 a5 a6 a7 a8 a9 a10 a11 a12 a13 a14 : FV) (S : FAW) (κ : EX → W15 → FAW → RU) : m15 f (.mk a0 a1 a2 a3 a4 a5 a6 a7 a8 a9 a10 a11 a12 a13 a14 ) S κ = f a0 a1 a2 a3 a4 a5 a6 a7 a8 a9 a10 a11 a12 a13 a14 S fun b0 b1 b2 b3 b4 b5 b6 b7 b8 b9 b10 b11 b12 b13 b14 S => κ .normal (.mk b0 b1 b2 b3 b4 b5 b6 b7 b8 b9 b10 b11 b12 b13 b14) S := rfl
theorem k15_mk (f : FV → FV → FV → FV → FV → FV → FV → FV → FV → FV → FV → FV → FV → FV → FV → FV) (a0 a1 a2 a3 a4 a5 a6 a7 a8 a9 a10 a11 a12 a13 a14 : FV) : k15 f (.mk a0 a1 a2 a3 a4 a5 a6 a7 a8 a9 a10 a11 a12 a13 a14 ) = f a0 a1 a2 a3 a4 a5 a6 a7 a8 a9 a10 a11 a12 a13 a14  := rfl
structure W17 where
  a0 : FV
  a1 : FV
  a2 : FV
  a3 : FV
  a4 : FV
  a5 : FV
  a6 : FV
  a7 : FV
  a8 : FV
  a9 : FV
  a10 : FV
  a11 : FV
  a12 : FV
  a13 : FV
  a14 : FV
  a15 : FV
  a16 : FV
def fu17 (t0 t1 t2 t3 t4 t5 t6 t7 t8 t9 t10 t11 t12 t13 t14 t15 t16 : Nat) : FU W17 where
  K := [t0, t1, t2, t3, t4, t5, t6, t7, t8, t9, t10, t11, t12, t13, t14, t15, t16]
  env := fun v => W17.rec (motive := fun _ => List (Nat × FV)) (fun a0 a1 a2 a3 a4 a5 a6 a7 a8 a9 a10 a11 a12 a13 a14 a15 a16 => [(t0, a0), (t1, a1), (t2, a2), (t3, a3), (t4, a4), (t5, a5), (t6, a6), (t7, a7), (t8, a8), (t9, a9), (t10, a10), (t11, a11), (t12, a12), (t13, a13), (t14, a14), (t15, a15), (t16, a16)]) v
  upd := fun l as v => W17.rec (motive := fun _ => W17) (fun a0 a1 a2 a3 a4 a5 a6 a7 a8 a9 a10 a11 a12 a13 a14 a15 a16 => W17.mk (updU l as t0 a0) (updU l as t1 a1) (updU l as t2 a2) (updU l as t3 a3) (updU l as t4 a4) (updU l as t5 a5) (updU l as t6 a6) (updU l as t7 a7) (updU l as t8 a8) (updU l as t9 a9) (updU l as t10 a10) (updU l as t11 a11) (updU l as t12 a12) (updU l as t13 a13) (updU l as t14 a14) (updU l as t15 a15) (updU l as t16 a16)) v
  ent := fun g => W17.mk (g t0) (g t1) (g t2) (g t3) (g t4) (g t5) (g t6) (g t7) (g t8) (g t9) (g t10) (g t11) (g t12) (g t13) (g t14) (g t15) (g t16)
  keys := fun _ => rfl
  law := fun _ _ _ => rfl
  start := fun _ => rfl
def m17 (f : FV → FV → FV → FV → FV → FV → FV → FV → FV → FV → FV → FV → FV → FV → FV → FV → FV → FAW → (FV → FV → FV → FV → FV → FV → FV → FV → FV → FV → FV → FV → FV → FV → FV → FV → FV → FAW → RU) → RU) : CdU W17 := fun v S κ => W17.rec (motive := fun _ => RU) (fun a0 a1 a2 a3 a4 a5 a6 a7 a8 a9 a10 a11 a12 a13 a14 a15 a16 => f a0 a1 a2 a3 a4 a5 a6 a7 a8 a9 a10 a11 a12 a13 a14 a15 a16 S fun b0 b1 b2 b3 b4 b5 b6 b7 b8 b9 b10 b11 b12 b13 b14 b15 b16 S => κ .normal (.mk b0 b1 b2 b3 b4 b5 b6 b7 b8 b9 b10 b11 b12 b13 b14 b15 b16) S) v
def k17 (f : FV → FV → FV → FV → FV → FV → FV → FV → FV → FV → FV → FV → FV → FV → FV → FV → FV → FV) : W17 → FV := fun v => W17.rec (motive := fun _ => FV) (f) v
theorem m17_mk (f : FV → FV → FV → FV → FV → FV → FV → FV → FV → FV → FV → FV → FV → FV → FV → FV → FV → FAW → (FV → FV → FV → FV → FV → FV → FV → FV → FV → FV → FV → FV → FV → FV → FV → FV → FV → FAW → RU) → RU) (a0 a1 a2 a3 a4 a5 a6 a7 a8 a9 a10 a11 a12 a13 a14 a15 a16 : FV) (S : FAW) (κ : EX → W17 → FAW → RU) : m17 f (.mk a0 a1 a2 a3 a4 a5 a6 a7 a8 a9 a10 a11 a12 a13 a14 a15 a16 ) S κ = f a0 a1 a2 a3 a4 a5 a6 a7 a8 a9 a10 a11 a12 a13 a14 a15 a16 S fun b0 b1 b2 b3 b4 b5 b6 b7 b8 b9 b10 b11 b12 b13 b14 b15 b16 S => κ .normal (.mk b0 b1 b2 b3 b4 b5 b6 b7 b8 b9 b10 b11 b12 b13 b14 b15 b16) S := rfl
theorem k17_mk (f : FV → FV → FV → FV → FV → FV → FV → FV → FV → FV → FV → FV → FV → FV → FV → FV → FV → FV) (a0 a1 a2 a3 a4 a5 a6 a7 a8 a9 a10 a11 a12 a13 a14 a15 a16 : FV) : k17 f (.mk a0 a1 a2 a3 a4 a5 a6 a7 a8 a9 a10 a11 a12 a13 a14 a15 a16 ) = f a0 a1 a2 a3 a4 a5 a6 a7 a8 a9 a10 a11 a12 a13 a14 a15 a16  := rfl
structure W20 where
  a0 : FV
  a1 : FV
  a2 : FV
  a3 : FV
  a4 : FV
  a5 : FV
  a6 : FV
  a7 : FV
  a8 : FV
  a9 : FV
  a10 : FV
  a11 : FV
  a12 : FV
  a13 : FV
  a14 : FV
  a15 : FV
  a16 : FV
  a17 : FV
  a18 : FV
  a19 : FV
def fu20 (t0 t1 t2 t3 t4 t5 t6 t7 t8 t9 t10 t11 t12 t13 t14 t15 t16 t17 t18 t19 : Nat) : FU W20 where
  K := [t0, t1, t2, t3, t4, t5, t6, t7, t8, t9, t10, t11, t12, t13, t14, t15, t16, t17, t18, t19]
  env := fun v => W20.rec (motive := fun _ => List (Nat × FV)) (fun a0 a1 a2 a3 a4 a5 a6 a7 a8 a9 a10 a11 a12 a13 a14 a15 a16 a17 a18 a19 => [(t0, a0), (t1, a1), (t2, a2), (t3, a3), (t4, a4), (t5, a5), (t6, a6), (t7, a7), (t8, a8), (t9, a9), (t10, a10), (t11, a11), (t12, a12), (t13, a13), (t14, a14), (t15, a15), (t16, a16), (t17, a17), (t18, a18), (t19, a19)]) v
  upd := fun l as v => W20.rec (motive := fun _ => W20) (fun a0 a1 a2 a3 a4 a5 a6 a7 a8 a9 a10 a11 a12 a13 a14 a15 a16 a17 a18 a19 => W20.mk (updU l as t0 a0) (updU l as t1 a1) (updU l as t2 a2) (updU l as t3 a3) (updU l as t4 a4) (updU l as t5 a5) (updU l as t6 a6) (updU l as t7 a7) (updU l as t8 a8) (updU l as t9 a9) (updU l as t10 a10) (updU l as t11 a11) (updU l as t12 a12) (updU l as t13 a13) (updU l as t14 a14) (updU l as t15 a15) (updU l as t16 a16) (updU l as t17 a17) (updU l as t18 a18) (updU l as t19 a19)) v
  ent := fun g => W20.mk (g t0) (g t1) (g t2) (g t3) (g t4) (g t5) (g t6) (g t7) (g t8) (g t9) (g t10) (g t11) (g t12) (g t13) (g t14) (g t15) (g t16) (g t17) (g t18) (g t19)
  keys := fun _ => rfl
  law := fun _ _ _ => rfl
  start := fun _ => rfl
def m20 (f : FV → FV → FV → FV → FV → FV → FV → FV → FV → FV → FV → FV → FV → FV → FV → FV → FV → FV → FV → FV → FAW → (FV → FV → FV → FV → FV → FV → FV → FV → FV → FV → FV → FV → FV → FV → FV → FV → FV → FV → FV → FV → FAW → RU) → RU) : CdU W20 := fun v S κ => W20.rec (motive := fun _ => RU) (fun a0 a1 a2 a3 a4 a5 a6 a7 a8 a9 a10 a11 a12 a13 a14 a15 a16 a17 a18 a19 => f a0 a1 a2 a3 a4 a5 a6 a7 a8 a9 a10 a11 a12 a13 a14 a15 a16 a17 a18 a19 S fun b0 b1 b2 b3 b4 b5 b6 b7 b8 b9 b10 b11 b12 b13 b14 b15 b16 b17 b18 b19 S => κ .normal (.mk b0 b1 b2 b3 b4 b5 b6 b7 b8 b9 b10 b11 b12 b13 b14 b15 b16 b17 b18 b19) S) v
def k20 (f : FV → FV → FV → FV → FV → FV → FV → FV → FV → FV → FV → FV → FV → FV → FV → FV → FV → FV → FV → FV → FV) : W20 → FV := fun v => W20.rec (motive := fun _ => FV) (f) v
theorem m20_mk (f : FV → FV → FV → FV → FV → FV → FV → FV → FV → FV → FV → FV → FV → FV → FV → FV → FV → FV → FV → FV → FAW → (FV → FV → FV → FV → FV → FV → FV → FV → FV → FV → FV → FV → FV → FV → FV → FV → FV → FV → FV → FV → FAW → RU) → RU) (a0 a1 a2 a3 a4 a5 a6 a7 a8 a9 a10 a11 a12 a13 a14 a15 a16 a17 a18 a19 : FV) (S : FAW) (κ : EX → W20 → FAW → RU) : m20 f (.mk a0 a1 a2 a3 a4 a5 a6 a7 a8 a9 a10 a11 a12 a13 a14 a15 a16 a17 a18 a19 ) S κ = f a0 a1 a2 a3 a4 a5 a6 a7 a8 a9 a10 a11 a12 a13 a14 a15 a16 a17 a18 a19 S fun b0 b1 b2 b3 b4 b5 b6 b7 b8 b9 b10 b11 b12 b13 b14 b15 b16 b17 b18 b19 S => κ .normal (.mk b0 b1 b2 b3 b4 b5 b6 b7 b8 b9 b10 b11 b12 b13 b14 b15 b16 b17 b18 b19) S := rfl
theorem k20_mk (f : FV → FV → FV → FV → FV → FV → FV → FV → FV → FV → FV → FV → FV → FV → FV → FV → FV → FV → FV → FV → FV) (a0 a1 a2 a3 a4 a5 a6 a7 a8 a9 a10 a11 a12 a13 a14 a15 a16 a17 a18 a19 : FV) : k20 f (.mk a0 a1 a2 a3 a4 a5 a6 a7 a8 a9 a10 a11 a12 a13 a14 a15 a16 a17 a18 a19 ) = f a0 a1 a2 a3 a4 a5 a6 a7 a8 a9 a10 a11 a12 a13 a14 a15 a16 a17 a18 a19  := rfl
end
end Go.Proofs.Ythclmjelknibhaa.Ev
