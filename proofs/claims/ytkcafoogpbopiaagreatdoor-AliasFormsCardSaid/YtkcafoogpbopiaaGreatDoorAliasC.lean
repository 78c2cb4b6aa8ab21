/- The trees are the program's functions. -/
import Derived.Test.YtkcafoogpbopiaaGreatDoorAliasX
import Derived.Test.YtkcafoogpbopiaaGreatDoorProg
import Derived.KernelRfl
import Derived.Lib.Bytealg
namespace Go.Proofs.YtkcafoogpbopiaaGreatDoor.Ev
open Go Go.RowKit
set_option linter.unusedVariables false
theorem x4 : IsX Tryz.prog 4 f4 := by unfold IsX; kernel_rfl
theorem x6 : IsX Tryz.prog 6 f6 := by unfold IsX; kernel_rfl
theorem x7 : IsX Tryz.prog 7 f7 := by unfold IsX; kernel_rfl
theorem x8 : IsX Tryz.prog 8 f8 := by unfold IsX; kernel_rfl
theorem x9 : IsX Tryz.prog 9 f9 := by unfold IsX; kernel_rfl
theorem x12 : IsX Tryz.prog 12 f12 := by unfold IsX; kernel_rfl
theorem x13 : IsX Tryz.prog 13 f13 := by unfold IsX; kernel_rfl
theorem x15 : IsX Tryz.prog 15 f15 := by unfold IsX; kernel_rfl
theorem x18 : IsX Tryz.prog 18 f18 := by unfold IsX; kernel_rfl
theorem x19 : IsX Tryz.prog 19 f19 := by unfold IsX; kernel_rfl
theorem x20 : IsX Tryz.prog 20 f20 := by unfold IsX; kernel_rfl
theorem x23 : IsX Tryz.prog 23 f23 := by unfold IsX; kernel_rfl
theorem x24 : IsX Tryz.prog 24 f24 := by unfold IsX; kernel_rfl
theorem x25 : IsX Tryz.prog 25 f25 := by unfold IsX; kernel_rfl
theorem x26 : IsX Tryz.prog 26 f26 := by unfold IsX; kernel_rfl
theorem x29 : IsX Tryz.prog 29 f29 := by unfold IsX; kernel_rfl
theorem x30 : IsX Tryz.prog 30 f30 := by unfold IsX; kernel_rfl
theorem x31 : IsX Tryz.prog 31 f31 := by unfold IsX; kernel_rfl
theorem x32 : IsX Tryz.prog 32 f32 := by unfold IsX; kernel_rfl
theorem x33 : IsX Tryz.prog 33 f33 := by unfold IsX; kernel_rfl
theorem x34 : IsX Tryz.prog 34 f34 := by unfold IsX; kernel_rfl
theorem x39 : IsX Tryz.prog 39 f39 := by unfold IsX; kernel_rfl
theorem x40 : IsX Tryz.prog 40 f40 := by unfold IsX; kernel_rfl
theorem x41 : IsX Tryz.prog 41 f41 := by unfold IsX; kernel_rfl
theorem x42 : IsX Tryz.prog 42 f42 := by unfold IsX; kernel_rfl
theorem x43 : IsX Tryz.prog 43 f43 := by unfold IsX; kernel_rfl
theorem x44 : IsX Tryz.prog 44 f44 := by unfold IsX; kernel_rfl
theorem x49 : IsX Tryz.prog 49 f49 := by unfold IsX; kernel_rfl
theorem x50 : IsX Tryz.prog 50 f50 := by unfold IsX; kernel_rfl
theorem x51 : IsX Tryz.prog 51 f51 := by unfold IsX; kernel_rfl
theorem x52 : IsX Tryz.prog 52 f52 := by unfold IsX; kernel_rfl
theorem x54 : IsX Tryz.prog 54 f54 := by unfold IsX; kernel_rfl
theorem x55 : IsX Tryz.prog 55 f55 := by unfold IsX; kernel_rfl
theorem x56 : IsX Tryz.prog 56 f56 := by unfold IsX; kernel_rfl
theorem x57 : IsX Tryz.prog 57 f57 := by unfold IsX; kernel_rfl
theorem x58 : IsX Tryz.prog 58 f58 := by unfold IsX; kernel_rfl
theorem x61 : IsX Tryz.prog 61 f61 := by unfold IsX; kernel_rfl
theorem x62 : IsX Tryz.prog 62 f62 := by unfold IsX; kernel_rfl
theorem x63 : IsX Tryz.prog 63 f63 := by unfold IsX; kernel_rfl
theorem x64 : IsX Tryz.prog 64 f64 := by unfold IsX; kernel_rfl
theorem x65 : IsX Tryz.prog 65 f65 := by unfold IsX; kernel_rfl
theorem x66 : IsX Tryz.prog 66 f66 := by unfold IsX; kernel_rfl
theorem x67 : IsX Tryz.prog 67 f67 := by unfold IsX; kernel_rfl
theorem x72 : IsX Tryz.prog 72 f72 := by unfold IsX; kernel_rfl
theorem x73 : IsX Tryz.prog 73 f73 := by unfold IsX; kernel_rfl
theorem x74 : IsX Tryz.prog 74 f74 := by unfold IsX; kernel_rfl
theorem x75 : IsX Tryz.prog 75 f75 := by unfold IsX; kernel_rfl
theorem x76 : IsX Tryz.prog 76 f76 := by unfold IsX; kernel_rfl
theorem x77 : IsX Tryz.prog 77 f77 := by unfold IsX; kernel_rfl
theorem x79 : IsX Tryz.prog 79 f79 := by unfold IsX; kernel_rfl
theorem x80 : IsX Tryz.prog 80 f80 := by unfold IsX; kernel_rfl
theorem x81 : IsX Tryz.prog 81 f81 := by unfold IsX; kernel_rfl
theorem x82 : IsX Tryz.prog 82 f82 := by unfold IsX; kernel_rfl
theorem x86 : IsX Tryz.prog 86 f86 := by unfold IsX; kernel_rfl
theorem x87 : IsX Tryz.prog 87 f87 := by unfold IsX; kernel_rfl
theorem x88 : IsX Tryz.prog 88 f88 := by unfold IsX; kernel_rfl
theorem x89 : IsX Tryz.prog 89 f89 := by unfold IsX; kernel_rfl
theorem x90 : IsX Tryz.prog 90 f90 := by unfold IsX; kernel_rfl
theorem x91 : IsX Tryz.prog 91 f91 := by unfold IsX; kernel_rfl
theorem x92 : IsX Tryz.prog 92 f92 := by unfold IsX; kernel_rfl
theorem x93 : IsX Tryz.prog 93 f93 := by unfold IsX; kernel_rfl
theorem x94 : IsX Tryz.prog 94 f94 := by unfold IsX; kernel_rfl
theorem x95 : IsX Tryz.prog 95 f95 := by unfold IsX; kernel_rfl
theorem x96 : IsX Tryz.prog 96 f96 := by unfold IsX; kernel_rfl
theorem x97 : IsX Tryz.prog 97 f97 := by unfold IsX; kernel_rfl
theorem x98 : IsX Tryz.prog 98 f98 := by unfold IsX; kernel_rfl
theorem x99 : IsX Tryz.prog 99 f99 := by unfold IsX; kernel_rfl
theorem x100 : IsX Tryz.prog 100 f100 := by unfold IsX; kernel_rfl
theorem x107 : IsX Tryz.prog 107 f107 := by unfold IsX; kernel_rfl
theorem x108 : IsX Tryz.prog 108 f108 := by unfold IsX; kernel_rfl
theorem x109 : IsX Tryz.prog 109 f109 := by unfold IsX; kernel_rfl
theorem x110 : IsX Tryz.prog 110 f110 := by unfold IsX; kernel_rfl
theorem x111 : IsX Tryz.prog 111 f111 := by unfold IsX; kernel_rfl
theorem x112 : IsX Tryz.prog 112 f112 := by unfold IsX; kernel_rfl
theorem x113 : IsX Tryz.prog 113 f113 := by unfold IsX; kernel_rfl
theorem x118 : IsX Tryz.prog 118 f118 := by unfold IsX; kernel_rfl
theorem x119 : IsX Tryz.prog 119 f119 := by unfold IsX; kernel_rfl
theorem x120 : IsX Tryz.prog 120 f120 := by unfold IsX; kernel_rfl
theorem x121 : IsX Tryz.prog 121 f121 := by unfold IsX; kernel_rfl
theorem x122 : IsX Tryz.prog 122 f122 := by unfold IsX; kernel_rfl
theorem x123 : IsX Tryz.prog 123 f123 := by unfold IsX; kernel_rfl
theorem x124 : IsX Tryz.prog 124 f124 := by unfold IsX; kernel_rfl
theorem x125 : IsX Tryz.prog 125 f125 := by unfold IsX; kernel_rfl
theorem x126 : IsX Tryz.prog 126 f126 := by unfold IsX; kernel_rfl
theorem x127 : IsX Tryz.prog 127 f127 := by unfold IsX; kernel_rfl
theorem x131 : IsX Tryz.prog 131 f131 := by unfold IsX; kernel_rfl
theorem x132 : IsX Tryz.prog 132 f132 := by unfold IsX; kernel_rfl
theorem x133 : IsX Tryz.prog 133 f133 := by unfold IsX; kernel_rfl
theorem x134 : IsX Tryz.prog 134 f134 := by unfold IsX; kernel_rfl
theorem x135 : IsX Tryz.prog 135 f135 := by unfold IsX; kernel_rfl
theorem x136 : IsX Tryz.prog 136 f136 := by unfold IsX; kernel_rfl
theorem x137 : IsX Tryz.prog 137 f137 := by unfold IsX; kernel_rfl
theorem x138 : IsX Tryz.prog 138 f138 := by unfold IsX; kernel_rfl
theorem x139 : IsX Tryz.prog 139 f139 := by unfold IsX; kernel_rfl
theorem x140 : IsX Tryz.prog 140 f140 := by unfold IsX; kernel_rfl
theorem x141 : IsX Tryz.prog 141 f141 := by unfold IsX; kernel_rfl
theorem x142 : IsX Tryz.prog 142 f142 := by unfold IsX; kernel_rfl
theorem x143 : IsX Tryz.prog 143 f143 := by unfold IsX; kernel_rfl
theorem x144 : IsX Tryz.prog 144 f144 := by unfold IsX; kernel_rfl
theorem x145 : IsX Tryz.prog 145 f145 := by unfold IsX; kernel_rfl
theorem x146 : IsX Tryz.prog 146 f146 := by unfold IsX; kernel_rfl
theorem x148 : IsX Tryz.prog 148 f148 := by unfold IsX; kernel_rfl
theorem x149 : IsX Tryz.prog 149 f149 := by unfold IsX; kernel_rfl
theorem x150 : IsX Tryz.prog 150 f150 := by unfold IsX; kernel_rfl
theorem x151 : IsX Tryz.prog 151 f151 := by unfold IsX; kernel_rfl
theorem x152 : IsX Tryz.prog 152 f152 := by unfold IsX; kernel_rfl
theorem x153 : IsX Tryz.prog 153 f153 := by unfold IsX; kernel_rfl
theorem x154 : IsX Tryz.prog 154 f154 := by unfold IsX; kernel_rfl
theorem x155 : IsX Tryz.prog 155 f155 := by unfold IsX; kernel_rfl
theorem x156 : IsX Tryz.prog 156 f156 := by unfold IsX; kernel_rfl
theorem x157 : IsX Tryz.prog 157 f157 := by unfold IsX; kernel_rfl
theorem x158 : IsX Tryz.prog 158 f158 := by unfold IsX; kernel_rfl
theorem x159 : IsX Tryz.prog 159 f159 := by unfold IsX; kernel_rfl
theorem x160 : IsX Tryz.prog 160 f160 := by unfold IsX; kernel_rfl
theorem x161 : IsX Tryz.prog 161 f161 := by unfold IsX; kernel_rfl
theorem x162 : IsX Tryz.prog 162 f162 := by unfold IsX; kernel_rfl
theorem x163 : IsX Tryz.prog 163 f163 := by unfold IsX; kernel_rfl
theorem x164 : IsX Tryz.prog 164 f164 := by unfold IsX; kernel_rfl
theorem x165 : IsX Tryz.prog 165 f165 := by unfold IsX; kernel_rfl
theorem x167 : IsX Tryz.prog 167 f167 := by unfold IsX; kernel_rfl
theorem x168 : IsX Tryz.prog 168 f168 := by unfold IsX; kernel_rfl
theorem alias_all : ∀ p ∈ aliasL, IsX Tryz.prog p.1 p.2 :=
  isx_cons x4 ( isx_cons x6 ( isx_cons x7 ( isx_cons x8 ( isx_cons x9 ( isx_cons x12 ( isx_cons x13 ( isx_cons x15 ( isx_cons x18 ( isx_cons x19 ( isx_cons x20 ( isx_cons x23 ( isx_cons x24 ( isx_cons x25 ( isx_cons x26 ( isx_cons x29 ( isx_cons x30 ( isx_cons x31 ( isx_cons x32 ( isx_cons x33 ( isx_cons x34 ( isx_cons x39 ( isx_cons x40 ( isx_cons x41 ( isx_cons x42 ( isx_cons x43 ( isx_cons x44 ( isx_cons x49 ( isx_cons x50 ( isx_cons x51 ( isx_cons x52 ( isx_cons x54 ( isx_cons x55 ( isx_cons x56 ( isx_cons x57 ( isx_cons x58 ( isx_cons x61 ( isx_cons x62 ( isx_cons x63 ( isx_cons x64 ( isx_cons x65 ( isx_cons x66 ( isx_cons x67 ( isx_cons x72 ( isx_cons x73 ( isx_cons x74 ( isx_cons x75 ( isx_cons x76 ( isx_cons x77 ( isx_cons x79 ( isx_cons x80 ( isx_cons x81 ( isx_cons x82 ( isx_cons x86 ( isx_cons x87 ( isx_cons x88 ( isx_cons x89 ( isx_cons x90 ( isx_cons x91 ( isx_cons x92 ( isx_cons x93 ( isx_cons x94 ( isx_cons x95 ( isx_cons x96 ( isx_cons x97 ( isx_cons x98 ( isx_cons x99 ( isx_cons x100 ( isx_cons x107 ( isx_cons x108 ( isx_cons x109 ( isx_cons x110 ( isx_cons x111 ( isx_cons x112 ( isx_cons x113 ( isx_cons x118 ( isx_cons x119 ( isx_cons x120 ( isx_cons x121 ( isx_cons x122 ( isx_cons x123 ( isx_cons x124 ( isx_cons x125 ( isx_cons x126 ( isx_cons x127 ( isx_cons x131 ( isx_cons x132 ( isx_cons x133 ( isx_cons x134 ( isx_cons x135 ( isx_cons x136 ( isx_cons x137 ( isx_cons x138 ( isx_cons x139 ( isx_cons x140 ( isx_cons x141 ( isx_cons x142 ( isx_cons x143 ( isx_cons x144 ( isx_cons x145 ( isx_cons x146 ( isx_cons x148 ( isx_cons x149 ( isx_cons x150 ( isx_cons x151 ( isx_cons x152 ( isx_cons x153 ( isx_cons x154 ( isx_cons x155 ( isx_cons x156 ( isx_cons x157 ( isx_cons x158 ( isx_cons x159 ( isx_cons x160 ( isx_cons x161 ( isx_cons x162 ( isx_cons x163 ( isx_cons x164 ( isx_cons x165 ( isx_cons x167 ( isx_cons x168 (fun _ h => nomatch h)))))))))))))))))))))))))))))))))))))))))))))))))))))))))))))))))))))))))))))))))))))))))))))))))))))))))))))))))))))))))
theorem alias_is (f : FuncId) (xf : XFunc) (h : aliasE f = some xf) : IsX Tryz.prog f xf := by
  unfold aliasE at h
  exact alias_all (f, xf) (look_mem (l := aliasL) h)
theorem alias_mixed : Tryz.prog.follows .mixedOrders = true := by kernel_rfl
theorem ixL_eq (s : ByteArray) (c : UInt8) : (match (List.range s.size).find? fun i => s[i]! == c with
      | some i => (i : Int)
      | none => -1) = ixL s.data.toList c.toNat 0 := by
  have key : ∀ (n k : Nat), k + n = s.size → (match (List.range' k n).find? fun i => s[i]! == c with
      | some i => (i : Int)
      | none => -1) = ixL (s.data.toList.drop k) c.toNat k := by
    intro n
    induction n with
    | zero =>
      intro k hk
      have : s.data.toList.drop k = [] := List.drop_eq_nil_of_le (by have := ba_len s; omega)
      rw [this]; rfl
    | succ n ih =>
      intro k hk
      have hlt : k < s.data.toList.length := by have := ba_len s; omega
      rw [List.drop_eq_getElem_cons hlt]
      simp only [List.range'_succ, List.find?_cons, ixL, beqU]
      have hg : s[k]! = s.data.toList[k] := by
        have hk2 : k < s.size := by omega
        rw [getElem!_pos s k hk2]
        rfl
      rw [hg]
      by_cases e : s.data.toList[k] = c
      · rw [e]; simp
      · have e2 : ¬ s.data.toList[k].toNat = c.toNat := fun h => e (UInt8.toNat_inj.mp h)
        have e3 : (s.data.toList[k] == c) = false := by simpa using e
        rw [e3]
        simp only [e2, decide_false, cond_false]
        exact ih (k + 1) (by omega)
  have := key s.size 0 (by omega)
  rw [List.range_eq_range']
  simpa using this
theorem cntL_eq (c : UInt8) : ∀ (l : List UInt8) (n : Int), l.foldl (fun (n : Int) x => if x == c then n + 1 else n) n = n + (cntL l c.toNat : Nat)
  | [], n => by simp [cntL]
  | b :: l, n => by
    rw [List.foldl_cons, cntL_eq c l]
    simp only [cntL, beqU]
    by_cases e : b = c
    · subst e; simp; omega
    · have e2 : ¬ b.toNat = c.toNat := fun h => e (UInt8.toNat_inj.mp h)
      simp [e, e2]
theorem ext115 (s : ByteArray) (c : Int) (w : World) : (callFunc 115 #[.string s, .int .u8 c]).run Tryz.prog w = .ok (.value (.int .i64 (ixByte s c))) w := by
  obtain ⟨fn, hf, hb, hname, hn, he⟩ : ∃ fn, Tryz.prog.funcs[115]? = some fn ∧ fn.body.isNone = true ∧ (fn.name == "runtime.NumGoroutine") = false ∧ Extern.findNext fn = none ∧ Extern.find fn = some Extern.BytealgIndexByte.indexByte :=
    ⟨Tryz.f115, Tryz.func115, by kernel_rfl, by kernel_rfl, by kernel_rfl, by kernel_rfl⟩
  refine ext_ok hf hb hname hn he ?_
  have e1 : Extern.BytealgIndexByte.indexByte #[.string s, .int .u8 c] = (match (List.range s.size).find? fun i => s[i]! == c.toNat.toUInt8 with
      | some i => pure (goInt i)
      | none => pure (goInt (-1)) : Sem Value) := rfl
  rw [e1, ixByte, ← ixL_eq]
  generalize (List.range s.size).find? (fun i => s[i]! == c.toNat.toUInt8) = o
  cases o <;> rfl
theorem ext166 (s : ByteArray) (c : Int) (w : World) : (callFunc 166 #[.string s, .int .u8 c]).run Tryz.prog w = .ok (.value (.int .i64 (cntByte s c))) w := by
  obtain ⟨fn, hf, hb, hname, hn, he⟩ : ∃ fn, Tryz.prog.funcs[166]? = some fn ∧ fn.body.isNone = true ∧ (fn.name == "runtime.NumGoroutine") = false ∧ Extern.findNext fn = none ∧ Extern.find fn = some Extern.BytealgCount.count :=
    ⟨Tryz.f166, Tryz.func166, by kernel_rfl, by kernel_rfl, by kernel_rfl, by kernel_rfl⟩
  refine ext_ok hf hb hname hn he ?_
  change Sem.run Tryz.prog (do
    let b ← Extern.Bytes.bytesOf (.string s)
    let c' ← Extern.Bytes.asByte (.int .u8 c)
    pure (goInt (b.foldl (fun n x => if x == c' then n + 1 else n) (0 : Nat)))) w = _
  simp only [Extern.Bytes.bytesOf, Extern.Bytes.asByte, Sem.run_bind, Sem.run_pure, Result.andThen]
  rw [Lib.foldl_data, cntL_eq]
  simp [goInt, cntByte]
theorem alias_X : COk Tryz.prog aliasX := by
  intro W0 ρ S w f args args' v S' hw ha h
  have two : ∀ (s : ByteArray) (c : Int), args = [.string s, .int .u8 c] → args' = #[.string s, .int .u8 c] := by
    rintro s c rfl
    have h1 := ha.1
    have h2 := ha.2
    simp only [List.size_toArray, List.length_cons, List.length_nil] at h1
    have e0 := (h2 0 (by simp) (by omega)).string_inv
    have e1 := (h2 1 (by simp) (by omega)).int_inv
    apply Array.ext (by simp; omega)
    intro i p1 p2
    have p2 : i < 2 := by simpa using p2
    match i, p2 with
    | 0, _ => exact e0
    | 1, _ => exact e1
  unfold aliasX at h
  split at h
  · rename_i hf
    subst hf
    unfold xStr at h
    split at h
    · rename_i s c
      simp only [Option.some.injEq, Prod.mk.injEq] at h
      obtain ⟨rfl, rfl⟩ := h
      have := two s c rfl
      subst this
      exact .inr ⟨ρ, _, w, Grow.refl _ ρ, ext115 s c w, .int _ _, hw⟩
    · cases h
  split at h
  · rename_i hf
    subst hf
    unfold xStr at h
    split at h
    · rename_i s c
      simp only [Option.some.injEq, Prod.mk.injEq] at h
      obtain ⟨rfl, rfl⟩ := h
      have := two s c rfl
      subst this
      exact .inr ⟨ρ, _, w, Grow.refl _ ρ, ext166 s c w, .int _ _, hw⟩
    · cases h
  · cases h
end Go.Proofs.YtkcafoogpbopiaaGreatDoor.Ev
