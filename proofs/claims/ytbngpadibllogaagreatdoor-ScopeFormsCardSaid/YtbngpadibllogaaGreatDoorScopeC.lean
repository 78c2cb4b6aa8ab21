/- The trees are the program's functions. -/
import Derived.Test.YtbngpadibllogaaGreatDoorScopeX
import Derived.Test.YtbngpadibllogaaGreatDoorProg
import Derived.KernelRfl
import Derived.Lib.Bytealg
namespace Go.Proofs.YtbngpadibllogaaGreatDoor.Ev
open Go Go.RowKit
set_option linter.unusedVariables false
theorem x4 : IsX Tryz.prog 4 f4 := by unfold IsX; kernel_rfl
theorem x6 : IsX Tryz.prog 6 f6 := by unfold IsX; kernel_rfl
theorem x7 : IsX Tryz.prog 7 f7 := by unfold IsX; kernel_rfl
theorem x10 : IsX Tryz.prog 10 f10 := by unfold IsX; kernel_rfl
theorem x11 : IsX Tryz.prog 11 f11 := by unfold IsX; kernel_rfl
theorem x13 : IsX Tryz.prog 13 f13 := by unfold IsX; kernel_rfl
theorem x14 : IsX Tryz.prog 14 f14 := by unfold IsX; kernel_rfl
theorem x15 : IsX Tryz.prog 15 f15 := by unfold IsX; kernel_rfl
theorem x16 : IsX Tryz.prog 16 f16 := by unfold IsX; kernel_rfl
theorem x17 : IsX Tryz.prog 17 f17 := by unfold IsX; kernel_rfl
theorem x20 : IsX Tryz.prog 20 f20 := by unfold IsX; kernel_rfl
theorem x21 : IsX Tryz.prog 21 f21 := by unfold IsX; kernel_rfl
theorem x22 : IsX Tryz.prog 22 f22 := by unfold IsX; kernel_rfl
theorem x25 : IsX Tryz.prog 25 f25 := by unfold IsX; kernel_rfl
theorem x26 : IsX Tryz.prog 26 f26 := by unfold IsX; kernel_rfl
theorem x27 : IsX Tryz.prog 27 f27 := by unfold IsX; kernel_rfl
theorem x28 : IsX Tryz.prog 28 f28 := by unfold IsX; kernel_rfl
theorem x29 : IsX Tryz.prog 29 f29 := by unfold IsX; kernel_rfl
theorem x30 : IsX Tryz.prog 30 f30 := by unfold IsX; kernel_rfl
theorem x31 : IsX Tryz.prog 31 f31 := by unfold IsX; kernel_rfl
theorem x36 : IsX Tryz.prog 36 f36 := by unfold IsX; kernel_rfl
theorem x37 : IsX Tryz.prog 37 f37 := by unfold IsX; kernel_rfl
theorem x38 : IsX Tryz.prog 38 f38 := by unfold IsX; kernel_rfl
theorem x39 : IsX Tryz.prog 39 f39 := by unfold IsX; kernel_rfl
theorem x40 : IsX Tryz.prog 40 f40 := by unfold IsX; kernel_rfl
theorem x41 : IsX Tryz.prog 41 f41 := by unfold IsX; kernel_rfl
theorem x42 : IsX Tryz.prog 42 f42 := by unfold IsX; kernel_rfl
theorem x43 : IsX Tryz.prog 43 f43 := by unfold IsX; kernel_rfl
theorem x44 : IsX Tryz.prog 44 f44 := by unfold IsX; kernel_rfl
theorem x45 : IsX Tryz.prog 45 f45 := by unfold IsX; kernel_rfl
theorem x46 : IsX Tryz.prog 46 f46 := by unfold IsX; kernel_rfl
theorem x47 : IsX Tryz.prog 47 f47 := by unfold IsX; kernel_rfl
theorem x52 : IsX Tryz.prog 52 f52 := by unfold IsX; kernel_rfl
theorem x53 : IsX Tryz.prog 53 f53 := by unfold IsX; kernel_rfl
theorem x54 : IsX Tryz.prog 54 f54 := by unfold IsX; kernel_rfl
theorem x55 : IsX Tryz.prog 55 f55 := by unfold IsX; kernel_rfl
theorem x56 : IsX Tryz.prog 56 f56 := by unfold IsX; kernel_rfl
theorem x57 : IsX Tryz.prog 57 f57 := by unfold IsX; kernel_rfl
theorem x58 : IsX Tryz.prog 58 f58 := by unfold IsX; kernel_rfl
theorem x59 : IsX Tryz.prog 59 f59 := by unfold IsX; kernel_rfl
theorem x60 : IsX Tryz.prog 60 f60 := by unfold IsX; kernel_rfl
theorem x61 : IsX Tryz.prog 61 f61 := by unfold IsX; kernel_rfl
theorem x62 : IsX Tryz.prog 62 f62 := by unfold IsX; kernel_rfl
theorem x63 : IsX Tryz.prog 63 f63 := by unfold IsX; kernel_rfl
theorem x64 : IsX Tryz.prog 64 f64 := by unfold IsX; kernel_rfl
theorem x65 : IsX Tryz.prog 65 f65 := by unfold IsX; kernel_rfl
theorem x66 : IsX Tryz.prog 66 f66 := by unfold IsX; kernel_rfl
theorem x67 : IsX Tryz.prog 67 f67 := by unfold IsX; kernel_rfl
theorem x68 : IsX Tryz.prog 68 f68 := by unfold IsX; kernel_rfl
theorem x69 : IsX Tryz.prog 69 f69 := by unfold IsX; kernel_rfl
theorem x70 : IsX Tryz.prog 70 f70 := by unfold IsX; kernel_rfl
theorem x71 : IsX Tryz.prog 71 f71 := by unfold IsX; kernel_rfl
theorem x72 : IsX Tryz.prog 72 f72 := by unfold IsX; kernel_rfl
theorem x79 : IsX Tryz.prog 79 f79 := by unfold IsX; kernel_rfl
theorem x80 : IsX Tryz.prog 80 f80 := by unfold IsX; kernel_rfl
theorem x82 : IsX Tryz.prog 82 f82 := by unfold IsX; kernel_rfl
theorem x83 : IsX Tryz.prog 83 f83 := by unfold IsX; kernel_rfl
theorem x84 : IsX Tryz.prog 84 f84 := by unfold IsX; kernel_rfl
theorem x85 : IsX Tryz.prog 85 f85 := by unfold IsX; kernel_rfl
theorem x86 : IsX Tryz.prog 86 f86 := by unfold IsX; kernel_rfl
theorem x87 : IsX Tryz.prog 87 f87 := by unfold IsX; kernel_rfl
theorem x88 : IsX Tryz.prog 88 f88 := by unfold IsX; kernel_rfl
theorem x89 : IsX Tryz.prog 89 f89 := by unfold IsX; kernel_rfl
theorem x90 : IsX Tryz.prog 90 f90 := by unfold IsX; kernel_rfl
theorem x91 : IsX Tryz.prog 91 f91 := by unfold IsX; kernel_rfl
theorem x92 : IsX Tryz.prog 92 f92 := by unfold IsX; kernel_rfl
theorem x93 : IsX Tryz.prog 93 f93 := by unfold IsX; kernel_rfl
theorem x97 : IsX Tryz.prog 97 f97 := by unfold IsX; kernel_rfl
theorem x98 : IsX Tryz.prog 98 f98 := by unfold IsX; kernel_rfl
theorem x101 : IsX Tryz.prog 101 f101 := by unfold IsX; kernel_rfl
theorem x102 : IsX Tryz.prog 102 f102 := by unfold IsX; kernel_rfl
theorem x103 : IsX Tryz.prog 103 f103 := by unfold IsX; kernel_rfl
theorem x104 : IsX Tryz.prog 104 f104 := by unfold IsX; kernel_rfl
theorem x105 : IsX Tryz.prog 105 f105 := by unfold IsX; kernel_rfl
theorem x106 : IsX Tryz.prog 106 f106 := by unfold IsX; kernel_rfl
theorem x107 : IsX Tryz.prog 107 f107 := by unfold IsX; kernel_rfl
theorem x108 : IsX Tryz.prog 108 f108 := by unfold IsX; kernel_rfl
theorem x109 : IsX Tryz.prog 109 f109 := by unfold IsX; kernel_rfl
theorem x110 : IsX Tryz.prog 110 f110 := by unfold IsX; kernel_rfl
theorem x111 : IsX Tryz.prog 111 f111 := by unfold IsX; kernel_rfl
theorem x112 : IsX Tryz.prog 112 f112 := by unfold IsX; kernel_rfl
theorem x113 : IsX Tryz.prog 113 f113 := by unfold IsX; kernel_rfl
theorem x115 : IsX Tryz.prog 115 f115 := by unfold IsX; kernel_rfl
theorem x116 : IsX Tryz.prog 116 f116 := by unfold IsX; kernel_rfl
theorem x117 : IsX Tryz.prog 117 f117 := by unfold IsX; kernel_rfl
theorem x118 : IsX Tryz.prog 118 f118 := by unfold IsX; kernel_rfl
theorem x119 : IsX Tryz.prog 119 f119 := by unfold IsX; kernel_rfl
theorem x120 : IsX Tryz.prog 120 f120 := by unfold IsX; kernel_rfl
theorem x122 : IsX Tryz.prog 122 f122 := by unfold IsX; kernel_rfl
theorem x123 : IsX Tryz.prog 123 f123 := by unfold IsX; kernel_rfl
theorem x124 : IsX Tryz.prog 124 f124 := by unfold IsX; kernel_rfl
theorem x125 : IsX Tryz.prog 125 f125 := by unfold IsX; kernel_rfl
theorem x126 : IsX Tryz.prog 126 f126 := by unfold IsX; kernel_rfl
theorem x127 : IsX Tryz.prog 127 f127 := by unfold IsX; kernel_rfl
theorem x128 : IsX Tryz.prog 128 f128 := by unfold IsX; kernel_rfl
theorem x129 : IsX Tryz.prog 129 f129 := by unfold IsX; kernel_rfl
theorem scope_all : ∀ p ∈ scopeL, IsX Tryz.prog p.1 p.2 :=
  isx_cons x4 ( isx_cons x6 ( isx_cons x7 ( isx_cons x10 ( isx_cons x11 ( isx_cons x13 ( isx_cons x14 ( isx_cons x15 ( isx_cons x16 ( isx_cons x17 ( isx_cons x20 ( isx_cons x21 ( isx_cons x22 ( isx_cons x25 ( isx_cons x26 ( isx_cons x27 ( isx_cons x28 ( isx_cons x29 ( isx_cons x30 ( isx_cons x31 ( isx_cons x36 ( isx_cons x37 ( isx_cons x38 ( isx_cons x39 ( isx_cons x40 ( isx_cons x41 ( isx_cons x42 ( isx_cons x43 ( isx_cons x44 ( isx_cons x45 ( isx_cons x46 ( isx_cons x47 ( isx_cons x52 ( isx_cons x53 ( isx_cons x54 ( isx_cons x55 ( isx_cons x56 ( isx_cons x57 ( isx_cons x58 ( isx_cons x59 ( isx_cons x60 ( isx_cons x61 ( isx_cons x62 ( isx_cons x63 ( isx_cons x64 ( isx_cons x65 ( isx_cons x66 ( isx_cons x67 ( isx_cons x68 ( isx_cons x69 ( isx_cons x70 ( isx_cons x71 ( isx_cons x72 ( isx_cons x79 ( isx_cons x80 ( isx_cons x82 ( isx_cons x83 ( isx_cons x84 ( isx_cons x85 ( isx_cons x86 ( isx_cons x87 ( isx_cons x88 ( isx_cons x89 ( isx_cons x90 ( isx_cons x91 ( isx_cons x92 ( isx_cons x93 ( isx_cons x97 ( isx_cons x98 ( isx_cons x101 ( isx_cons x102 ( isx_cons x103 ( isx_cons x104 ( isx_cons x105 ( isx_cons x106 ( isx_cons x107 ( isx_cons x108 ( isx_cons x109 ( isx_cons x110 ( isx_cons x111 ( isx_cons x112 ( isx_cons x113 ( isx_cons x115 ( isx_cons x116 ( isx_cons x117 ( isx_cons x118 ( isx_cons x119 ( isx_cons x120 ( isx_cons x122 ( isx_cons x123 ( isx_cons x124 ( isx_cons x125 ( isx_cons x126 ( isx_cons x127 ( isx_cons x128 ( isx_cons x129 (fun _ h => nomatch h))))))))))))))))))))))))))))))))))))))))))))))))))))))))))))))))))))))))))))))))))))))))))))))))
theorem scope_is (f : FuncId) (xf : XFunc) (h : scopeE f = some xf) : IsX Tryz.prog f xf := by
  unfold scopeE at h
  exact scope_all (f, xf) (look_mem (l := scopeL) h)
theorem scope_mixed : Tryz.prog.follows .mixedOrders = true := by kernel_rfl
theorem ixL_eq (s : ByteArray) (c : UInt8) : (match (List.range s.size).find? fun i => s[i]! == c with
      | some i => (i : Int)
      | none => -1) = ixL s.data.toList c.toNat 0 := by
  have key : ∀ (n k : Nat), k + n = s.size → (match (List.range' k n).find? fun i => s[i]! == c with
      | some i => (i : Int)
      | none => -1) = ixL (s.data.toList.drop k) c.toNat k := by
    intro n
    induction n with
    | zero =>
      intro k hk
      have : s.data.toList.drop k = [] := List.drop_eq_nil_of_le (by have := ba_len s; omega)
      rw [this]; rfl
    | succ n ih =>
      intro k hk
      have hlt : k < s.data.toList.length := by have := ba_len s; omega
      rw [List.drop_eq_getElem_cons hlt]
      simp only [List.range'_succ, List.find?_cons, ixL, beqN_eq]
      have hg : s[k]! = s.data.toList[k] := by
        have hk2 : k < s.size := by omega
        rw [getElem!_pos s k hk2]
        rfl
      rw [hg]
      by_cases e : s.data.toList[k] = c
      · rw [e]; simp
      · have e2 : ¬ s.data.toList[k].toNat = c.toNat := fun h => e (UInt8.toNat_inj.mp h)
        have e3 : (s.data.toList[k] == c) = false := by simpa using e
        rw [e3]
        simp only [e2, decide_false, cond_false]
        exact ih (k + 1) (by omega)
  have := key s.size 0 (by omega)
  rw [List.range_eq_range']
  simpa using this
theorem cntL_eq (c : UInt8) : ∀ (l : List UInt8) (n : Int), l.foldl (fun (n : Int) x => if x == c then n + 1 else n) n = n + (cntL l c.toNat : Nat)
  | [], n => by simp [cntL]
  | b :: l, n => by
    rw [List.foldl_cons, cntL_eq c l]
    simp only [cntL, beqN_eq]
    by_cases e : b = c
    · subst e; simp; omega
    · have e2 : ¬ b.toNat = c.toNat := fun h => e (UInt8.toNat_inj.mp h)
      simp [e, e2]
theorem ext121 (s : ByteArray) (c : Int) (w : World) : (callFunc 121 #[.string s, .int .u8 c]).run Tryz.prog w = .ok (.value (.int .i64 (ixByte s c))) w := by
  obtain ⟨fn, hf, hb, hname, hn, he⟩ : ∃ fn, Tryz.prog.funcs[121]? = some fn ∧ fn.body.isNone = true ∧ (fn.name == "runtime.NumGoroutine") = false ∧ Extern.findNext fn = none ∧ Extern.find fn = some Extern.BytealgIndexByte.indexByte :=
    ⟨Tryz.f121, Tryz.func121, by kernel_rfl, by kernel_rfl, by kernel_rfl, by kernel_rfl⟩
  refine ext_ok hf hb hname hn he ?_
  have e1 : Extern.BytealgIndexByte.indexByte #[.string s, .int .u8 c] = (match (List.range s.size).find? fun i => s[i]! == c.toNat.toUInt8 with
      | some i => pure (goInt i)
      | none => pure (goInt (-1)) : Sem Value) := rfl
  rw [e1, ixByte, ← ixL_eq]
  generalize (List.range s.size).find? (fun i => s[i]! == c.toNat.toUInt8) = o
  cases o <;> rfl
theorem ext81 (s : ByteArray) (c : Int) (w : World) : (callFunc 81 #[.string s, .int .u8 c]).run Tryz.prog w = .ok (.value (.int .i64 (cntByte s c))) w := by
  obtain ⟨fn, hf, hb, hname, hn, he⟩ : ∃ fn, Tryz.prog.funcs[81]? = some fn ∧ fn.body.isNone = true ∧ (fn.name == "runtime.NumGoroutine") = false ∧ Extern.findNext fn = none ∧ Extern.find fn = some Extern.BytealgCount.count :=
    ⟨Tryz.f81, Tryz.func81, by kernel_rfl, by kernel_rfl, by kernel_rfl, by kernel_rfl⟩
  refine ext_ok hf hb hname hn he ?_
  change Sem.run Tryz.prog (do
    let b ← Extern.Bytes.bytesOf (.string s)
    let c' ← Extern.Bytes.asByte (.int .u8 c)
    pure (goInt (b.foldl (fun n x => if x == c' then n + 1 else n) (0 : Nat)))) w = _
  simp only [Extern.Bytes.bytesOf, Extern.Bytes.asByte, Sem.run_bind, Sem.run_pure, Result.andThen]
  rw [Lib.foldl_data, cntL_eq]
  simp [goInt, cntByte]
theorem scope_X : COk Tryz.prog scopeX := by
  intro W0 ρ S w f args args' v S' hw ha h
  have two : ∀ (s : ByteArray) (c : Int), args = [.string s, .int .u8 c] → args' = #[.string s, .int .u8 c] := by
    rintro s c rfl
    have h1 := ha.1
    have h2 := ha.2
    simp only [List.size_toArray, List.length_cons, List.length_nil] at h1
    have e0 := (h2 0 (by simp) (by omega)).string_inv
    have e1 := (h2 1 (by simp) (by omega)).int_inv
    apply Array.ext (by simp; omega)
    intro i p1 p2
    have p2 : i < 2 := by simpa using p2
    match i, p2 with
    | 0, _ => exact e0
    | 1, _ => exact e1
  unfold scopeX at h
  split at h
  · rename_i hf
    subst hf
    unfold xStr at h
    split at h
    · rename_i s c
      simp only [Option.some.injEq, Prod.mk.injEq] at h
      obtain ⟨rfl, rfl⟩ := h
      have := two s c rfl
      subst this
      exact .inr ⟨ρ, _, w, Grow.refl _ ρ, ext121 s c w, .int _ _, hw⟩
    · cases h
  split at h
  · rename_i hf
    subst hf
    unfold xStr at h
    split at h
    · rename_i s c
      simp only [Option.some.injEq, Prod.mk.injEq] at h
      obtain ⟨rfl, rfl⟩ := h
      have := two s c rfl
      subst this
      exact .inr ⟨ρ, _, w, Grow.refl _ ρ, ext81 s c w, .int _ _, hw⟩
    · cases h
  · cases h
end Go.Proofs.YtbngpadibllogaaGreatDoor.Ev
