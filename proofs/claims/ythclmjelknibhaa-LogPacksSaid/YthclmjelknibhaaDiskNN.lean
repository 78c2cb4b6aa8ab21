/- The names of a disk's files: what the library's contracts say, laid at this program by the kit's command lay-iter.mjs. -/
import Derived.Shelf.SlGeneric
import Derived.Shelf.SlIter.Nil
import Derived.Shelf.SortM.Plain
import Derived.Shelf.SortM.SortNone
import Derived.Ground.GgzProg
import Derived.Ground.SlgmProg
import Derived.Test.YthclmjelknibhaaProg
import Derived.Test.YthclmjelknibhaaDiskRR
namespace Go.Proofs
open Go.RowKit Go.Maps Go.Sort Go.Shelf

-- maps.Keys[map[string]assayer/disk.file,string,assayer/disk.file] (function 61; its iterator 84) · slices.Sorted[string] (60) · slices.Sort[[]string,string] (83) · the map's type 76, the keys' 9
def Try.keys61_ren : Go.Shelf.Ren := ⟨fun | 7 => 61 | 10 => 84 | n => n, fun | 23 => 76 | 26 => 9 | 3 => 81 | 28 => 87 | 0 => 0 | 27 => 86 | 33 => 110 | 4 => 4 | n => n, fun | n => n⟩
theorem Try.keys61 : Go.Proofs.SlLaysZ.n7 Try.prog Try.keys61_ren := {
  mixed := by kernel_rfl
  f7 := ⟨Try.f61.name, by decide, Try.func61.trans (congrArg some (by kernel_rfl))⟩
  f10 := ⟨Try.f84.name, by decide, Try.func84.trans (congrArg some (by kernel_rfl))⟩
  t0 := Try.underlying0
  a0 := Try.isAgg0
  z0 := Try.sizeOf0
  v0 := Try.zeroValue0
  t4 := Try.underlying4
  a4 := Try.isAgg4
  z4 := Try.sizeOf4
  v4 := Try.zeroValue4
  t23 := Try.underlying76
  a23 := Try.isAgg76
  z23 := Try.sizeOf76
  v23 := Try.zeroValue76
  t26 := Try.underlying9
  a26 := Try.isAgg9
  z26 := Try.sizeOf9
  v26 := Try.zeroValue9
  t27 := Try.underlying86
  a27 := Try.isAgg86
  z27 := Try.sizeOf86
  v27 := Try.zeroValue86
  t28 := Try.underlying87
  a28 := Try.isAgg87
  z28 := Try.sizeOf87
  v28 := Try.zeroValue87
  t33 := Try.underlying110
  a33 := Try.isAgg110
  z33 := Try.sizeOf110
  v33 := Try.zeroValue110 }
def Try.sorted60_ren : Go.Shelf.Ren := ⟨fun | 6 => 60 | 8 => 82 | 9 => 83 | 11 => 91 | 13 => 93 | 12 => 92 | 23 => 105 | 24 => 106 | 14 => 96 | 15 => 97 | 16 => 98 | 17 => 99 | 18 => 100 | 19 => 101 | 20 => 102 | 21 => 103 | 22 => 104 | 25 => 107 | 26 => 108 | 27 => 109 | 28 => 110 | 29 => 111 | 30 => 112 | 31 => 113 | n => n, fun | 26 => 9 | 28 => 87 | 24 => 37 | 0 => 0 | 3 => 3 | 37 => 112 | 48 => 95 | 50 => 94 | 4 => 4 | 40 => 123 | 39 => 122 | 45 => 128 | 5 => 5 | 9 => 9 | 51 => 132 | 55 => 136 | 57 => 138 | 58 => 139 | 33 => 110 | n => n, fun | n => n⟩
theorem Try.sorted60 : Go.Proofs.SlLaysZ.n6 Try.prog Try.sorted60_ren := {
  mixed := by kernel_rfl
  f6 := ⟨Try.f60.name, by decide, Try.func60.trans (congrArg some (by kernel_rfl))⟩
  f8 := ⟨Try.f82.name, by decide, Try.func82.trans (congrArg some (by kernel_rfl))⟩
  f11 := ⟨Try.f91.name, by decide, Try.func91.trans (congrArg some (by kernel_rfl))⟩
  t0 := Try.underlying0
  a0 := Try.isAgg0
  z0 := Try.sizeOf0
  v0 := Try.zeroValue0
  t24 := Try.underlying37
  a24 := Try.isAgg37
  z24 := Try.sizeOf37
  v24 := Try.zeroValue37
  t26 := Try.underlying9
  a26 := Try.isAgg9
  z26 := Try.sizeOf9
  v26 := Try.zeroValue9
  t28 := Try.underlying87
  a28 := Try.isAgg87
  z28 := Try.sizeOf87
  v28 := Try.zeroValue87
  i26 := by kernel_rfl }
def Try.sort83_ren : Go.Shelf.Ren := ⟨fun | 6 => 83 | 8 => 93 | 9 => 92 | 19 => 105 | 20 => 106 | 21 => 96 | 22 => 97 | 23 => 98 | 24 => 99 | 25 => 100 | 26 => 101 | 27 => 102 | 28 => 103 | 29 => 104 | 36 => 107 | 31 => 108 | 32 => 109 | 37 => 110 | 38 => 111 | 39 => 112 | 41 => 113 | n => n, fun | 27 => 37 | 29 => 9 | 3 => 3 | 32 => 112 | 26 => 37 | 0 => 0 | 44 => 95 | 46 => 94 | 4 => 4 | 36 => 123 | 35 => 122 | 41 => 128 | 5 => 5 | 9 => 9 | 53 => 132 | 57 => 136 | 63 => 138 | 64 => 139 | n => n, fun | n => n⟩
theorem Try.sort83 : Go.Proofs.SlLaysM.n6 Try.prog Try.sort83_ren := {
  mixed := by kernel_rfl
  f6 := ⟨Try.f83.name, by decide, Try.func83.trans (congrArg some (by kernel_rfl))⟩
  f8 := Try.func93.trans (congrArg some (by kernel_rfl))
  f9 := ⟨Try.f92.name, by decide, Try.func92.trans (congrArg some (by kernel_rfl))⟩
  f19 := Try.func105.trans (congrArg some (by kernel_rfl))
  f20 := Try.func106.trans (congrArg some (by kernel_rfl))
  f21 := ⟨Try.f96.name, by decide, Try.func96.trans (congrArg some (by kernel_rfl))⟩
  f22 := ⟨Try.f97.name, by decide, Try.func97.trans (congrArg some (by kernel_rfl))⟩
  f23 := ⟨Try.f98.name, by decide, Try.func98.trans (congrArg some (by kernel_rfl))⟩
  f24 := ⟨Try.f99.name, by decide, Try.func99.trans (congrArg some (by kernel_rfl))⟩
  f25 := ⟨Try.f100.name, by decide, Try.func100.trans (congrArg some (by kernel_rfl))⟩
  f26 := ⟨Try.f101.name, by decide, Try.func101.trans (congrArg some (by kernel_rfl))⟩
  f27 := ⟨Try.f102.name, by decide, Try.func102.trans (congrArg some (by kernel_rfl))⟩
  f28 := ⟨Try.f103.name, by decide, Try.func103.trans (congrArg some (by kernel_rfl))⟩
  f29 := ⟨Try.f104.name, by decide, Try.func104.trans (congrArg some (by kernel_rfl))⟩
  f31 := Try.func108.trans (congrArg some (by kernel_rfl))
  f32 := Try.func109.trans (congrArg some (by kernel_rfl))
  f36 := ⟨Try.f107.name, by decide, Try.func107.trans (congrArg some (by kernel_rfl))⟩
  f37 := ⟨Try.f110.name, by decide, Try.func110.trans (congrArg some (by kernel_rfl))⟩
  f38 := ⟨Try.f111.name, by decide, Try.func111.trans (congrArg some (by kernel_rfl))⟩
  f39 := ⟨Try.f112.name, by decide, Try.func112.trans (congrArg some (by kernel_rfl))⟩
  f41 := ⟨Try.f113.name, by decide, Try.func113.trans (congrArg some (by kernel_rfl))⟩
  t0 := Try.underlying0
  a0 := Try.isAgg0
  z0 := Try.sizeOf0
  v0 := Try.zeroValue0
  t3 := Try.underlying3
  a3 := Try.isAgg3
  z3 := Try.sizeOf3
  v3 := Try.zeroValue3
  t4 := Try.underlying4
  a4 := Try.isAgg4
  z4 := Try.sizeOf4
  v4 := Try.zeroValue4
  t5 := Try.underlying5
  a5 := Try.isAgg5
  z5 := Try.sizeOf5
  v5 := Try.zeroValue5
  t9 := Try.underlying9
  a9 := Try.isAgg9
  z9 := Try.sizeOf9
  v9 := Try.zeroValue9
  t26 := Try.underlying37
  a26 := Try.isAgg37
  z26 := Try.sizeOf37
  v26 := Try.zeroValue37
  t27 := Try.underlying37
  a27 := Try.isAgg37
  z27 := Try.sizeOf37
  v27 := Try.zeroValue37
  t29 := Try.underlying9
  a29 := Try.isAgg9
  z29 := Try.sizeOf9
  v29 := Try.zeroValue9
  t32 := Try.underlying112
  a32 := Try.isAgg112
  z32 := Try.sizeOf112
  v32 := Try.zeroValue112
  t35 := Try.underlying122
  a35 := Try.isAgg122
  z35 := Try.sizeOf122
  v35 := Try.zeroValue122
  t36 := Try.underlying123
  a36 := Try.isAgg123
  z36 := Try.sizeOf123
  v36 := Try.zeroValue123
  t41 := Try.underlying128
  a41 := Try.isAgg128
  z41 := Try.sizeOf128
  v41 := Try.zeroValue128
  t44 := Try.underlying95
  a44 := Try.isAgg95
  z44 := Try.sizeOf95
  v44 := Try.zeroValue95
  t46 := Try.underlying94
  a46 := Try.isAgg94
  z46 := Try.sizeOf94
  v46 := Try.zeroValue94
  t53 := Try.underlying132
  a53 := Try.isAgg132
  z53 := Try.sizeOf132
  v53 := Try.zeroValue132
  t57 := Try.underlying136
  a57 := Try.isAgg136
  z57 := Try.sizeOf136
  v57 := Try.zeroValue136
  t63 := Try.underlying138
  a63 := Try.isAgg138
  z63 := Try.sizeOf138
  v63 := Try.zeroValue138
  t64 := Try.underlying139
  a64 := Try.isAgg139
  z64 := Try.sizeOf139
  v64 := Try.zeroValue139 }

/-- slices.Sort's two contracts at this dump, at the fence that asks nothing. -/
theorem Try.sorts60 (m : Nat) : AnyZ.SortsIn Try.prog Try.sorted60_ren Fence.wide m :=
  ⟨fun blk off cap ss W hH hblk hsz => callsIn_wide.2 (AnyM.slices_Sort_string Try.sort83 blk off cap ss W hH hblk hsz),
   fun p cap W => callsIn_wide.2 (AnyM.slices_Sort_string_none Try.sort83 p cap W)⟩

/-- **maps.Keys[map[string]assayer/disk.file,string,assayer/disk.file], at whatever map, the nil one too:** a function value over ONE NEW BLOCK, which holds the map. -/
theorem Try.maps_Keys_61 (mb : Option Nat) (W : World) : CallsIn Fence.wide 5 Try.prog 61 #[.map mb] W fun e w' => e = .returned (.func (.func 84) #[] #[.pointer (some ⟨W.heap.size, 0, none⟩)]) ∧ w' = W.alloc (.cells #[.map mb] 76) :=
  AnyZ.keys_in Try.keys61 Fence.wide 5 trivial rfl mb W

set_option maxHeartbeats 1000000 in
/-- **slices.Sorted[string] AT WHAT maps.Keys[map[string]assayer/disk.file,string,assayer/disk.file] HANDED BACK FOR A MAP THAT IS NOT nil** ('w': the world AHEAD of maps.Keys' call): A NEW SLICE THAT HOLDS THE MAP's KEYS, SORTED; nil just where it has none; nothing that lay before has turned. -/
theorem Try.slices_Sorted_keys_60_61 {H : Type} (b nn : Nat) (D0 : DataW H) (R : Value → Option (DataW H × List MemPlace)) (w : World) (hown : w.ownsMap Try.prog 9 R b nn D0) (hmax : Maps.size D0 ≤ maxLen) (hbytes : Maps.size D0 * 16 ≤ 140737488355328) :
    CallsIn Fence.wide 5 Try.prog 60 #[.func (.func 84) #[] #[.pointer (some ⟨w.heap.size, 0, none⟩)]] (w.alloc (.cells #[.map (some b)] 76)) fun e w' => ∃ (v : Value) (ss : List (List UInt8)), e = .returned v ∧ ss.Perm (strKeys D0) ∧
      w'.ownsRow (w.alloc (.cells #[.map (some b)] 76)).heap.size 9 1 v ss.length ((ss.mergeSort (fun x y => decide (x ≤ y))).map encStr) ∧ (v = .slice none 0 0 ↔ ss = []) ∧ Below (w.alloc (.cells #[.map (some b)] 76)).heap.size (w.alloc (.cells #[.map (some b)] 76)) w' := by
  have hbl := hown.lt
  have hseq : SeqGives Fence.wide 2 Try.prog 84 #[.pointer (some ⟨w.heap.size, 0, none⟩)] encStr (fun ss => ss.Perm (strKeys D0)) (Maps.size D0) (w.alloc (.cells #[.map (some b)] 76)) :=
    AnyZ.keys_gives (ρ := Try.keys61_ren) { Try.keys61 with } Fence.wide _ trivial rfl (by omega) w.heap.size b nn D0 _ (by simp) (by simp) (by
      obtain ⟨es, clock, hb, Ft, hs, hD⟩ := hown
      exact ⟨es, clock, (Below.heap_alloc _ _ b hbl).trans hb, Ft, hs, hD⟩)
  exact AnyZ.sorted_in Try.sorted60 Fence.wide 5 trivial trivial trivial trivial rfl (by omega) (Try.sorts60 _) (enters_of Try.func83 (by kernel_rfl) rfl) 84 #[.pointer (some ⟨w.heap.size, 0, none⟩)] trivial (enters_of Try.func84 (by kernel_rfl) rfl) _ _ hmax hbytes _ hseq

set_option maxHeartbeats 1000000 in
/-- **.. AND FOR THE nil MAP: nil.** -/
theorem Try.slices_Sorted_keys_nil_60_61 (w : World) :
    CallsIn Fence.wide 5 Try.prog 60 #[.func (.func 84) #[] #[.pointer (some ⟨w.heap.size, 0, none⟩)]] (w.alloc (.cells #[.map none] 76)) fun e w' => ∃ (v : Value) (ss : List (List UInt8)), e = .returned v ∧ ss = [] ∧
      w'.ownsRow (w.alloc (.cells #[.map none] 76)).heap.size 9 1 v ss.length ((ss.mergeSort (fun x y => decide (x ≤ y))).map encStr) ∧ (v = .slice none 0 0 ↔ ss = []) ∧ Below (w.alloc (.cells #[.map none] 76)).heap.size (w.alloc (.cells #[.map none] 76)) w' := by
  have hseq : SeqGives Fence.wide 2 Try.prog 84 #[.pointer (some ⟨w.heap.size, 0, none⟩)] encStr (fun ss : List (List UInt8) => ss = []) 0 (w.alloc (.cells #[.map none] 76)) :=
    AnyZ.keys_gives_nil (ρ := Try.keys61_ren) { Try.keys61 with } Fence.wide _ trivial rfl w.heap.size _ (by simp) (by simp)
  exact AnyZ.sorted_in Try.sorted60 Fence.wide 5 trivial trivial trivial trivial rfl (by omega) (Try.sorts60 _) (enters_of Try.func83 (by kernel_rfl) rfl) 84 #[.pointer (some ⟨w.heap.size, 0, none⟩)] trivial (enters_of Try.func84 (by kernel_rfl) rfl) _ 0 (Nat.zero_le _) (by omega) _ hseq

end Go.Proofs
/- The names of a disk's files: our map is one whose keys the library's contract reads. -/
namespace Go.Proofs.Ythclmjelknibhaa.Ev
open Go Go.RowKit Go.Maps
open Go.Proofs (encStr)
set_option linter.unusedVariables false
set_option linter.unusedSimpArgs false

/-- A map's keys as bytes. -/
def keysB : List (Value × Value) → Option (List (List UInt8))
  | [] => some []
  | (.string s, _) :: l => if s.data.toList.length ≤ maxLen then (keysB l).map (s.data.toList :: ·) else none
  | _ => none
theorem keysB_rel {ρ : Ren} : ∀ (es : List (Value × Value)) (l : List MapEntry) (ks : List (List UInt8)), es.length = l.length → (∀ i (h : i < es.length) (h' : i < l.length), VRel ρ es[i].1 l[i].key ∧ VRel ρ es[i].2 l[i].val) → keysB es = some ks → l.map (·.key) = ks.map encStr ∧ ∀ k ∈ ks, k.length ≤ maxLen
  | [], [], ks, _, _, h => by
    simp only [keysB, Option.some.injEq] at h
    subst h
    exact ⟨rfl, fun k hk => by simp at hk⟩
  | [], _ :: _, _, hl, _, _ => by simp at hl
  | _ :: _, [], _, hl, _, _ => by simp at hl
  | (kv, vv) :: es, x :: l, ks, hl, hr, h => by
    cases kv with
    | string s =>
      simp only [keysB] at h
      split at h
      · rename_i hs
        obtain ⟨ks', hk', rfl⟩ := Option.map_eq_some_iff.mp h
        obtain ⟨h1, h2⟩ := keysB_rel es l ks' (by simpa using hl) (fun i a b => hr (i + 1) (by simpa using a) (by simpa using b)) hk'
        have h0 := (hr 0 (by simp) (by simp)).1
        have hx : x.key = .string s := by
          have h0 : VRel ρ (.string s) x.key := h0
          exact h0.string_inv
        refine ⟨?_, fun k hk => ?_⟩
        · simp only [List.map_cons, h1, hx]
        · rcases List.mem_cons.mp hk with rfl | hk
          · exact hs
          · exact h2 k hk
      · cases h
    | _ => simp [keysB] at h
theorem nodup_map_inj {α β : Type} {f : α → β} (hf : ∀ a b, f a = f b → a = b) : ∀ {l : List α}, l.Nodup → (l.map f).Nodup
  | [], _ => List.nodup_nil
  | a :: l, h => by
    obtain ⟨h1, h2⟩ := List.nodup_cons.mp h
    rw [List.map_cons, List.nodup_cons]
    refine ⟨fun hm => ?_, nodup_map_inj hf h2⟩
    obtain ⟨b, hb, e⟩ := List.mem_map.mp hm
    rw [← hf _ _ e] at h1
    exact h1 hb
def anyR : Value → Option (DataW Unit × List MemPlace) := fun _ => some (.nil, [])
theorem names_own {W0 : Fz} {ρ : Ren} {S : AW} {w : World} (h : RelW W0 ρ S w) {m : Nat} {pm : Place} {es : List (Value × Value)} (hp : ρ m = some pm) (hm : S.mapv m = some es) {ks : List (List UInt8)} (hk : keysB es = some ks) (hn : ks.Nodup) (hl : es.length ≤ maxLen) :
    ∃ nn D0, w.ownsMap Try.prog 9 anyR pm.blk nn D0 ∧ Maps.size D0 = es.length ∧ (strKeys D0).Perm ks := by
  obtain ⟨_, ms, ck, h2, hE, hB⟩ := h.maps m pm es hp hm
  obtain ⟨k1, k2⟩ := keysB_rel es ms.toList ks hE.1 hE.2 hk
  have hu : Try.prog.underlying 9 = some .string := Try.underlying9
  have hkey : ∀ k, k.length ≤ maxLen → keyOf Try.prog 9 (encStr k) = some (.string k) := fun k hk => by
    simp [keyOf, hu, mapKey, encStr]
    show k.toArray.size ≤ maxLen
    simpa using hk
  have hmem : ∀ x ∈ ms.toList, ∃ k ∈ ks, x.key = encStr k := fun x hx => by
    have : x.key ∈ ms.toList.map (·.key) := List.mem_map.mpr ⟨x, hx, rfl⟩
    rw [k1] at this
    obtain ⟨k, hk, e⟩ := List.mem_map.mp this
    exact ⟨k, hk, e.symm⟩
  have hrd : ∀ x ∈ ms.toList, ∀ k, k.length ≤ maxLen → x.key = encStr k → WideElems.rd Try.prog 9 anyR x = some (.string k, .nil) := fun x hx k hl e => by
    simp [WideElems.rd, e, hkey k hl, anyR]
  have F : WideElems.Fit Try.prog 9 anyR ms ck := ⟨by rw [← Array.length_toList, ← hE.1]; exact hl, ⟨fun x hx => hB.lt _ (by rw [hB.born]; exact List.mem_map.mpr ⟨x, hx, rfl⟩), by rw [← hB.born]; exact hB.rise.imp (fun h => Nat.ne_of_lt h), by rw [k1]; exact nodup_map_inj (fun a b e => encStr_inj e) hn⟩, fun x hx => by
    obtain ⟨k, hk, e⟩ := hmem x hx
    exact ⟨_, hrd x hx k (k2 k hk) e⟩⟩
  refine ⟨_, _, World.ownsMap_of_fit h2 F (fun _ _ _ h => h), ?_, ?_⟩
  · simp [Maps.size, length_sorted, hE.1]
  · show (List.map (fun p : Lit × DataW Unit => strOf p.1) _).Perm ks
    refine ((WideShapes.sorted_perm _).map _).trans ?_
    rw [List.map_map]
    have : ms.toList.map ((fun p : Lit × DataW Unit => strOf p.1) ∘ WideElems.rg Try.prog 9 anyR) = ks := by
      have h3 : ∀ (l : List MapEntry) (q : List (List UInt8)), (∀ x ∈ l, x ∈ ms.toList) → (∀ k ∈ q, k.length ≤ maxLen) → l.map (·.key) = q.map encStr → l.map ((fun p : Lit × DataW Unit => strOf p.1) ∘ WideElems.rg Try.prog 9 anyR) = q := by
        intro l
        induction l with
        | nil => intro q _ _ e; cases q with | nil => rfl | cons a q => simp at e
        | cons x l ih =>
          intro q hx hq e
          cases q with
          | nil => simp at e
          | cons k q =>
            simp only [List.map_cons, List.cons.injEq] at e
            rw [List.map_cons, Function.comp_apply, WideElems.rg_of (hrd x (hx x (by simp)) k (hq k (by simp)) e.1)]
            show k :: _ = _
            rw [ih q (fun y hy => hx y (by simp [hy])) (fun y hy => hq y (by simp [hy])) e.2]
      exact h3 ms.toList ks (fun _ h => h) k2 k1
    rw [this]
end Go.Proofs.Ythclmjelknibhaa.Ev
/- The names of a disk's files: our memory behind the library's call. -/
namespace Go.Proofs.Ythclmjelknibhaa.Ev
open Go Go.RowKit Go.Maps
open Go.Proofs (encStr)
set_option linter.unusedVariables false
set_option linter.unusedSimpArgs false

theorem Bel.later {W0 : Fz} {w w' : World} (h : Bel W0 w) (k : Below w.heap.size w w') : Bel W0 w' :=
  ⟨k.os.trans h.os, k.tape.trans h.tape, k.output.trans h.output, Nat.le_trans h.size k.size, fun i hi => (k.block i (Nat.lt_of_lt_of_le (W0.lt i hi) h.size)).trans (h.block i hi)⟩
theorem RelW.later {W0 : Fz} {ρ : Ren} {S : AW} {w w' : World} (h : RelW W0 ρ S w) (k : Below w.heap.size w w') : RelW W0 ρ S w' :=
  ⟨h.below.later k, h.fresh, h.objLt, h.famLt, h.genLe, fun i p hp => Nat.lt_of_lt_of_le (h.blk i p hp) k.size,
    fun i p r hp hr => (h.cells i p r hp hr).mono (Ren.le_refl ρ) (k.block _ (h.blk i p hp)), h.apart, h.ext,
    fun i p es hp hm => by
      obtain ⟨h1, ms, ck, h2, h3⟩ := h.maps i p es hp hm
      exact ⟨h1, ms, ck, (k.block _ (h.blk i p hp)).trans h2, h3⟩, h.mapsApart⟩
theorem RelW.laid {W0 : Fz} {ρ : Ren} {S : AW} {w w' : World} (h : RelW W0 ρ S w) (hw : Below w.heap.size w w') {g : Nat} (hg : w.heap.size ≤ g) (c : List Value) (C : Array Value) (elem es : Nat) (F : Nat × Nat) (hC : w'.heap[g]? = some (.cells C elem F)) (hF : Nf F C.size)
    (hc : ∀ (i : Nat) (v : Value), c[i]? = some v → isBad v = false → ∃ v', C[i]? = some v' ∧ VRel ρ v v') :
    RelW W0 (ρ.add S.next ⟨g, 0, C.size, es⟩) (S.new c elem es) w' := by
  have hgl : g < w'.heap.size := (Array.getElem?_eq_some_iff.mp hC).1
  have hnz : ¬ W0.z g := fun e => by
    have := W0.lt _ e
    have := h.below.size
    omega
  have hn := h.fresh S.next (Nat.le_refl _)
  have hle := Ren.le_add (ρ := ρ) ⟨g, 0, C.size, es⟩ hn
  refine ⟨h.below.later hw, fun i hi => ?_, fun i o ho => ?_, fun i r ho => ?_, fun i r ho => ?_, fun i p hp => ?_, fun i p r hp hr => ?_, ?_, fun i r hr hro => ?_, fun i p es' hp hm => ?_, ?_⟩
  · have hi' : S.next + 1 ≤ i := hi
    rw [Ren.add_other _ (by omega)]; exact h.fresh i (by omega)
  · rw [AW.obj_new] at ho
    show i < S.next + 1
    split at ho
    · omega
    · have := h.objLt i o ho; omega
  · rw [AW.obj_new] at ho
    show r.fam < S.next + 1
    split at ho
    · simp only [Option.some.injEq, AObj.cells.injEq] at ho; subst ho; show S.next < S.next + 1; omega
    · have := h.famLt i r ho; omega
  · rw [AW.obj_new] at ho
    split at ho
    · simp only [Option.some.injEq, AObj.cells.injEq] at ho; subst ho; exact Nat.zero_le _
    · have e : (S.new c elem es).fam r.fam = S.fam r.fam := by rw [AW.fam_new, if_neg (by have := h.famLt i r ho; omega)]
      rw [e]; exact h.genLe i r ho
  · by_cases hi : i = S.next
    · subst hi; rw [Ren.add_same] at hp; simp only [Option.some.injEq] at hp; subst hp; exact hgl
    · rw [Ren.add_other _ hi] at hp; exact Nat.lt_of_lt_of_le (h.blk i p hp) hw.size
  · by_cases hi : i = S.next
    · subst hi
      rw [Ren.add_same] at hp; simp only [Option.some.injEq] at hp; subst hp
      rw [AW.raw_new_same] at hr; simp only [Option.some.injEq] at hr; subst hr
      refine ⟨rfl, C, F, hC, rfl, fun k v hk hb => ?_, fun _ => ⟨hnz, hF⟩, fun h => by cases h⟩
      obtain ⟨v', e1, e2⟩ := hc k v hk hb
      exact ⟨k, v', by simp, e1, e2.mono hle⟩
    · rw [Ren.add_other _ hi] at hp
      rw [h.raw_new _ _ _ hi] at hr
      exact (h.cells i p r hp hr).mono hle (hw.block _ (h.blk i p hp))
  · intro i j p q r s hij hp hq hr hs hro hso hb
    by_cases hi : i = S.next
    · subst hi
      rw [Ren.add_same] at hp; simp only [Option.some.injEq] at hp; subst hp
      rw [Ren.add_other _ (Ne.symm hij)] at hq
      have := h.blk j q hq
      simp only at hb; omega
    · by_cases hj : j = S.next
      · subst hj
        rw [Ren.add_same] at hq; simp only [Option.some.injEq] at hq; subst hq
        rw [Ren.add_other _ hij] at hp
        have := h.blk i p hp
        simp only at hb; omega
      · rw [Ren.add_other _ hi] at hp
        rw [Ren.add_other _ hj] at hq
        rw [h.raw_new _ _ _ hi] at hr
        rw [h.raw_new _ _ _ hj] at hs
        obtain ⟨e1, e2, e3⟩ := h.apart i j p q r s hij hp hq hr hs hro hso hb
        refine ⟨e1, ?_, e3⟩
        rw [AW.fam_new, if_neg (by have := h.famLt i r (AW.raw_some hr).1; omega)]
        exact e2
  · by_cases hi : i = S.next
    · subst hi
      rw [AW.raw_new_same] at hr; simp only [Option.some.injEq] at hr; subst hr
      rw [AW.fam_new, if_pos rfl]; exact Nat.le_refl _
    · rw [h.raw_new _ _ _ hi] at hr
      rw [AW.fam_new, if_neg (by have := h.famLt i r (AW.raw_some hr).1; omega)]
      exact h.ext i r hr hro
  · by_cases hi : i = S.next
    · subst hi; rw [AW.mapv_new_same] at hm; cases hm
    · rw [Ren.add_other _ hi] at hp
      rw [AW.mapv_new _ _ _ _ hi] at hm
      obtain ⟨h1, ms, ck, h2, h3⟩ := h.maps i p es' hp hm
      exact ⟨h1, ms, ck, (hw.block _ (h.blk i p hp)).trans h2, h3.1.mono hle, h3.2⟩
  · intro i j p q es' fs hij hp hq hm hn'
    have hi : i ≠ S.next := by rintro rfl; rw [AW.mapv_new_same] at hm; cases hm
    have hj : j ≠ S.next := by rintro rfl; rw [AW.mapv_new_same] at hn'; cases hn'
    rw [Ren.add_other _ hi] at hp
    rw [Ren.add_other _ hj] at hq
    rw [AW.mapv_new _ _ _ _ hi] at hm
    rw [AW.mapv_new _ _ _ _ hj] at hn'
    exact h.mapsApart i j p q es' fs hij hp hq hm hn'
end Go.Proofs.Ythclmjelknibhaa.Ev
/- The names of a disk's files: the function's walk. -/
namespace Go.Proofs.Ythclmjelknibhaa.Ev
open Go Go.RowKit Go.Maps
open Go.Proofs (encStr)
set_option linter.unusedVariables false
set_option linter.unusedSimpArgs false

/-- A call whose result is told by the library's contract. -/
theorem call_wp {P : Program} {W0 : Fz} {ρ : Ren} {S : AW} {w : World} {F : AF} {a : Act} (h : RelW W0 ρ S w) (hF : FRel ρ F a) {ops : Array Oper} {i : Nat} {o : Oper} {t : Nat} {f : FuncId} {xs : List Operand} (hi : ops[i]? = some o) (hc : compileOper P ops o = some ⟨some t, none, .call f xs⟩) {K : Act → World → Prop} {Q : Exit → Act → World → Prop}
    (hent : ∀ args w, (callFunc f args).run P w = .ok (.enter f args) w) (hK : ∀ args', ARel ρ (xs.map F.ev).toArray args' → Calls P f args' w (fun e w' => ∃ v', e = .returned v' ∧ K (a.put (some t) v') w')) : wpOp P ops Q i K a w := by
  obtain ⟨h1, h2, h3⟩ := compileOper_some hc
  unfold wpOp
  rw [hi]
  simp only
  have hgo : o.guard = none := by
    unfold compileG at h1
    split at h1
    · rename_i e; exact e
    · split at h1 <;> simp at h1
  have hw : Region.wanted o (yielded ops a.tmps) = true := by simp [Region.wanted, hgo]
  rw [if_pos hw]
  left
  unfold Oper.wp
  obtain ⟨args', k1, k2⟩ := op_ok h hF h2 (r := .call f (xs.map F.ev)) rfl
  rw [k2, hent]
  refine (hK args' k1).mono ?_
  rintro e w' ⟨v', rfl, hk⟩
  rw [← h3]
  exact hk
structure NK where
  pre : List ECode
  el0 : List EOper
  m : Nat
  t1 : Nat
  t2 : Nat
  e3 : EOper
  z : ECode
def asCall (P : Program) (ops : Array Oper) (o : Oper) (f : FuncId) : Option (Nat × Nat) :=
  match compileOper P ops o with
  | some ⟨some t, none, .call g [.tmp x]⟩ => if g = f then some (x, t) else none
  | _ => none
theorem asCall_some {P : Program} {ops : Array Oper} {o : Oper} {f : FuncId} {x t : Nat} (h : asCall P ops o f = some (x, t)) : compileOper P ops o = some ⟨some t, none, .call f [.tmp x]⟩ := by
  unfold asCall at h
  split at h
  · rename_i h1
    split at h
    · rename_i e
      subst e
      simp only [Option.some.injEq, Prod.mk.injEq] at h
      obtain ⟨rfl, rfl⟩ := h
      exact h1
    · cases h
  · cases h
def nmL (P : Program) (f g : FuncId) (c z : Code) : Option NK :=
  match c with
  | .region _ ops false => match ops.toList.reverse with
    | o3 :: o2 :: o1 :: l0 => match asCall P ops o1 f, asCall P ops o2 g, compileOper P ops o3, l0.reverse.mapM (compileOper P ops), compileCode P z with
      | some (x, t1), some (x2, t2), some e3, some el0, some ez => if x2 = t1 then some ⟨[], el0, x, t1, t2, e3, ez⟩ else none
      | _, _, _, _, _ => none
    | _ => none
  | _ => none
theorem nmL_inv {P : Program} {f g : FuncId} {c z : Code} {k : NK} (h : nmL P f g c z = some k) : k.pre = [] ∧ compileCode P z = some k.z ∧ ∃ id ops l0 o1 o2 o3, c = .region id ops false ∧ ops.toList = l0 ++ [o1, o2, o3] ∧ l0.mapM (compileOper P ops) = some k.el0 ∧
    compileOper P ops o1 = some ⟨some k.t1, none, .call f [.tmp k.m]⟩ ∧ compileOper P ops o2 = some ⟨some k.t2, none, .call g [.tmp k.t1]⟩ ∧ compileOper P ops o3 = some k.e3 := by
  unfold nmL at h
  split at h
  · rename_i id ops
    split at h
    · rename_i o3 o2 o1 l0 e
      split at h
      · rename_i x t1 x2 t2 e3 el0 ez h1 h2 h3 h4 h5
        split at h
        · rename_i hx
          subst hx
          simp only [Option.some.injEq] at h
          subst h
          refine ⟨rfl, h5, id, ops, l0.reverse, o1, o2, o3, rfl, ?_, h4, asCall_some h1, asCall_some h2, h3⟩
          rw [← List.reverse_reverse ops.toList, e]
          simp
        · cases h
      · cases h
    · cases h
  · cases h
def nmC (P : Program) (f g : FuncId) : Code → Option NK
  | .seq a b => match nmL P f g a b with
    | some k => some k
    | none => match compileCode P a, nmC P f g b with
      | some ea, some k => some { k with pre := ea :: k.pre }
      | _, _ => none
  | _ => none
structure NF where
  ntmps : Nat
  k : NK
  results : List (Nat × Option (Option Nat))
def nmF (P : Program) (h f g : FuncId) : Option NF :=
  match P.funcs[h]? with
  | some fn => match fn.body with
    | some c => match nmC P f g c, fn.results.toList.mapM (compileR P) with
      | some k, some rs => if fn.name == "runtime.NumGoroutine" then none else some ⟨fn.ntmps, k, rs⟩
      | _, _ => none
    | none => none
  | none => none
def n24 : NF := ⟨11, ⟨[.ops [⟨(some 2), none, .mov (.const (.slice none 0 0))⟩],
  .seq (.ops [⟨(some 3), none, .mov (.tmp 0)⟩, ⟨(some 4), none, .eqN 0 false (.tmp 3) (.const (.pointer none))⟩])
  (.cond (.tmp 4) (.seq (.ops [⟨(some 2), none, .mov (.const (.slice none 0 0))⟩]) (.ret)) (.skip))],
  [⟨(some 5), none, .mov (.tmp 0)⟩, ⟨(some 6), none, .nilc (.tmp 5)⟩, ⟨(some 7), none, .fad 1 (.tmp 6)⟩, ⟨(some 8), none, .ld none (.tmp 7)⟩],
  8, 9, 10, ⟨(some 2), none, .mov (.tmp 10)⟩, .ret⟩, [(2, none)]⟩
theorem k24 : nmF Try.prog 24 61 60 = some n24 := by kernel_rfl
end Go.Proofs.Ythclmjelknibhaa.Ev
/- The names of a disk's files: what they come to. -/
namespace Go.Proofs.Ythclmjelknibhaa.Ev
open Go Go.RowKit Go.Maps
open Go.Proofs (encStr)
set_option linter.unusedVariables false
set_option linter.unusedSimpArgs false

def sortB (ks : List (List UInt8)) : List (List UInt8) := ks.mergeSort (fun x y => decide (x ≤ y))
def fn84 (i : Nat) : Value := .func (.func 84) #[] #[.pointer (some ⟨i, 0, none⟩)]
def namesS (S : AW) (m : Nat) : AW := S.new [.map (some m)] 76 1
def namesV (S : AW) (m : Nat) (ks : List (List UInt8)) : Value × AW :=
  if ks = [] then (.slice none 0 0, namesS S m) else (.slice (some ⟨S.next + 1, 0, none⟩) ks.length ks.length, (namesS S m).new ((sortB ks).map encStr) 9 1)
/-- What the library hands back, in our memory. -/
theorem sorted_calls {W0 : Fz} {ρ : Ren} {S : AW} {w : World} (h : RelW W0 ρ S w) {m : Nat} {pm : Place} {es : List (Value × Value)} (hp : ρ m = some pm) (hm : S.mapv m = some es) {ks : List (List UInt8)} (hk : keysB es = some ks) (hn : ks.Nodup) (hl : es.length ≤ 1000)
    (h1 : RelW W0 (ρ.add S.next ⟨w.heap.size, 0, 1, 1⟩) (namesS S m) (w.alloc (.cells #[.map (some pm.blk)] 76))) :
    Calls Try.prog 60 #[.func (.func 84) #[] #[.pointer (some ⟨w.heap.size, 0, none⟩)]] (w.alloc (.cells #[.map (some pm.blk)] 76)) fun e w' => ∃ v', e = .returned v' ∧ ∃ ρ', Grow (namesS S m).next (namesV S m ks).2.next (ρ.add S.next ⟨w.heap.size, 0, 1, 1⟩) ρ' ∧ VRel ρ' (namesV S m ks).1 v' ∧ RelW W0 ρ' (namesV S m ks).2 w' := by
  obtain ⟨nn, D0, hown, hsz, hperm⟩ := names_own h hp hm hk hn (Nat.le_trans hl (by decide))
  refine (callsIn_wide.1 (Try.slices_Sorted_keys_60_61 pm.blk nn D0 anyR w hown (by rw [hsz]; exact Nat.le_trans hl (by decide)) (by rw [hsz]; omega))).mono ?_
  rintro e w' ⟨v, ss, rfl, hS, hrow, hnil, hb⟩
  refine ⟨v, rfl, ?_⟩
  have hsp : ss.Perm ks := hS.trans hperm
  have hsort : ss.mergeSort (fun x y => decide (x ≤ y)) = sortB ks := mergeSort_of_perm hsp
  rw [hsort] at hrow
  have hlen : ss.length = ks.length := hsp.length_eq
  unfold namesV
  by_cases hks : ks = []
  · rw [if_pos hks]
    have hss : ss = [] := by rw [hks] at hsp; exact hsp.eq_nil
    rw [hnil.2 hss]
    exact ⟨_, Grow.refl _ _, .nils, h1.later hb⟩
  · rw [if_neg hks]
    rcases hrow.2 with ⟨rfl, hz⟩ | ⟨g, cap, cur, rfl, hg, hgb, hnc, _, hcs, htk⟩
    · rw [hlen] at hz
      exact absurd (List.eq_nil_of_length_eq_zero hz) hks
    · have hfr := h1.fresh (namesS S m).next (Nat.le_refl _)
      refine ⟨(ρ.add S.next ⟨w.heap.size, 0, 1, 1⟩).add (namesS S m).next ⟨g, 0, cur.size, 1⟩, Grow.add _ hfr, ?_, h1.laid hb hg _ cur 9 1 (0, 0) hgb (.inl rfl) ?_⟩
      · rw [hlen]
        refine VRel.slice (p := ⟨g, 0, cur.size, 1⟩) (Ren.add_same _ _ _) (Nat.le_refl _) (by rw [← hlen]; exact hnc) (fun _ => ⟨0, rfl, by simp, by simp [hcs]⟩)
      · intro i u hu hbad
        have hu2 : (cur.toList.take (ss.length * 1))[i]? = some u := by rw [htk]; exact hu
        rw [List.getElem?_take] at hu2
        split at hu2
        · refine ⟨u, by rw [← Array.getElem?_toList]; exact hu2, ?_⟩
          obtain ⟨k, _, rfl⟩ := List.mem_map.mp (List.mem_of_getElem? hu)
          exact .string _
        · cases hu2
end Go.Proofs.Ythclmjelknibhaa.Ev
/- The names of a disk's files: the function. -/
namespace Go.Proofs.Ythclmjelknibhaa.Ev
open Go Go.RowKit Go.Maps Go.Shelf
open Go.Proofs (encStr)
set_option linter.unusedVariables false
set_option linter.unusedSimpArgs false

theorem enter61 : ∀ args w, (callFunc 61 args).run Try.prog w = .ok (.enter 61 args) w := enters_of Try.func61 (by kernel_rfl) rfl
theorem enter60 : ∀ args w, (callFunc 60 args).run Try.prog w = .ok (.enter 60 args) w := enters_of Try.func60 (by kernel_rfl) rfl
theorem enter24 : ∀ args w, (callFunc 24 args).run Try.prog w = .ok (.enter 24 args) w := enters_of Try.func24 (by kernel_rfl) rfl
def RunN (C : Callee) (n : Nat) (k : NK) (F : AF) (S : AW) (R : EX × AF × AW → Prop) : Prop :=
  match goPre C n k.pre F S with
  | some (.normal, F1, S1) => ∃ F2 S2 m es ks, evOps C k.el0 F1 S1 = some (F2, S2) ∧ F2.get k.m = .map (some m) ∧ S2.mapv m = some es ∧ keysB es = some ks ∧ ks.Nodup ∧ es.length ≤ 1000 ∧ k.t1 < F2.n ∧ k.t2 < F2.n ∧
      ∃ F4 S4 r, evOper C k.e3 ((F2.put k.t1 (fn84 S2.next)).put k.t2 (namesV S2 m ks).1) (namesV S2 m ks).2 = some (F4, S4) ∧ evCode C n k.z F4 S4 = some r ∧ R r
  | some r => R r
  | none => False
theorem nmL_wp (hmx : Try.prog.follows .mixedOrders = true) {C : Callee} (hC : COk Try.prog C) {W0 : Fz} (n : Nat) {c z : Code} {k : NK} (hk : nmL Try.prog 61 60 c z = some k) {ρ : Ren} {S : AW} {w : World} {F : AF} {a : Act} (hw : RelW W0 ρ S w) (hF : FRel ρ F a)
    {F2 : AF} {S2 : AW} {m : Nat} {es : List (Value × Value)} {ks : List (List UInt8)} (hev : evOps C k.el0 F S = some (F2, S2)) (hm0 : F2.get k.m = .map (some m)) (hm : S2.mapv m = some es) (hkb : keysB es = some ks) (hn : ks.Nodup) (hl : es.length ≤ 1000) (l1 : k.t1 < F2.n) (l2 : k.t2 < F2.n)
    {F4 : AF} {S4 : AW} (he3 : evOper C k.e3 ((F2.put k.t1 (fn84 S2.next)).put k.t2 (namesV S2 m ks).1) (namesV S2 m ks).2 = some (F4, S4)) {Q : Exit → Act → World → Prop}
    (hQ : ∀ ρ' a' w', Grow S.next S4.next ρ ρ' → FRel ρ' F4 a' → RelW W0 ρ' S4 w' → z.wp Try.prog Q a' w') : (Code.seq c z).wp Try.prog Q a w := by
  obtain ⟨_, hz, id0, ops, l0, o1, o2, o3, rfl, h1, h2, h3, h4, h5⟩ := nmL_inv hk
  refine wp_seq (wp_region ?_)
  have hrange : List.range ops.size = List.range' 0 l0.length ++ [l0.length, l0.length + 1, l0.length + 2] := by
    rw [List.range_eq_range', ← Array.length_toList, h1, List.length_append]
    rw [show l0.length + [o1, o2, o3].length = l0.length + 1 + 1 + 1 from rfl, List.range'_1_concat, List.range'_1_concat, List.range'_1_concat]
    simp
  have hget : ∀ q, ops[q]? = (l0 ++ [o1, o2, o3])[q]? := fun q => by rw [← h1, Array.getElem?_toList]
  rw [hrange]
  refine ops_wp2 hC l0 k.el0 0 ρ S w F a F2 S2 (fun j o hj => ?_) h2 hw hF hev ?_
  · rw [Nat.zero_add, hget, List.getElem?_append_left (List.getElem?_eq_some_iff.mp hj).1, hj]
  intro ρ2 a2 w2 g1 g2 g3
  rw [wpOps_cons]
  refine call_wp g3 g2 (o := o1) (by rw [hget, List.getElem?_append_right (Nat.le_refl _), Nat.sub_self]; rfl) h3 enter61 ?_
  intro args' ha
  have hmv : ∃ pm, ρ2 m = some pm ∧ args' = #[.map (some pm.blk)] := by
    obtain ⟨x, hx1, hx2⟩ := ha.get (i := 0) (v := .map (some m)) (by show some (F2.get k.m) = _; rw [hm0])
    obtain ⟨pm, hpm, rfl⟩ := hx2.map_inv
    have hsz : args'.size = 1 := ha.1.symm
    refine ⟨pm, hpm, ?_⟩
    apply Array.ext
    · simp [hsz]
    · intro i a1 a2
      have : i = 0 := by omega
      subst this
      rw [Array.getElem?_eq_getElem a1] at hx1
      simpa using hx1
  obtain ⟨pm, hpm, rfl⟩ := hmv
  refine (callsIn_wide.1 (Try.maps_Keys_61 (some pm.blk) w2)).mono ?_
  rintro e w3 ⟨rfl, rfl⟩
  refine ⟨_, rfl, ?_⟩
  have hfr := g3.fresh S2.next (Nat.le_refl _)
  have g4 : RelW W0 (ρ2.add S2.next ⟨w2.heap.size, 0, 1, 1⟩) (namesS S2 m) (w2.alloc (.cells #[.map (some pm.blk)] 76)) := g3.new [.map (some m)] #[.map (some pm.blk)] 76 1 (0, 0) (.inl rfl) (fun i v hi hb => by
    cases i with
    | zero => simp only [List.getElem?_cons_zero, Option.some.injEq] at hi; subst hi; exact ⟨_, rfl, .map hpm⟩
    | succ i => simp at hi)
  have hg4 : Grow S2.next (namesS S2 m).next ρ2 (ρ2.add S2.next ⟨w2.heap.size, 0, 1, 1⟩) := Grow.add _ hfr
  have hfv : VRel (ρ2.add S2.next ⟨w2.heap.size, 0, 1, 1⟩) (fn84 S2.next) (.func (.func 84) #[] #[.pointer (some ⟨w2.heap.size, 0, none⟩)]) :=
    .func 84 _ _ _ _ rfl (fun i h => by simp at h) rfl (fun i h1 h2 => by
      have : i = 0 := by simp at h1; omega
      subst this
      exact VRel.ptr (o := 0) (Ren.add_same _ _ _) rfl)
  have hF3 := (g2.mono hg4.le).put hfv l1
  rw [wpOps_cons]
  refine call_wp g4 hF3 (o := o2) (by rw [hget, List.getElem?_append_right (by omega), show l0.length + 1 - l0.length = 1 from by omega]; rfl) h4 enter60 ?_
  intro args2 ha2
  have hargs : args2 = #[.func (.func 84) #[] #[.pointer (some ⟨w2.heap.size, 0, none⟩)]] := by
    have hget0 : (F2.put k.t1 (fn84 S2.next)).ev (.tmp k.t1) = fn84 S2.next := by show (F2.put k.t1 (fn84 S2.next)).get k.t1 = _; simp
    obtain ⟨x, hx1, hx2⟩ := ha2.get (i := 0) (v := fn84 S2.next) (by show some ((F2.put k.t1 (fn84 S2.next)).ev (.tmp k.t1)) = _; rw [hget0])
    have hx : x = .func (.func 84) #[] #[.pointer (some ⟨w2.heap.size, 0, none⟩)] := by
      unfold fn84 at hx2
      cases hx2 with
      | func f fs cs fs' cs' q1 q2 q3 q4 =>
        have e1 : fs' = #[] := Array.eq_empty_of_size_eq_zero q1.symm
        have e2 : cs'.size = 1 := q3.symm
        have e3 : ∀ y, cs' = #[y] → y = .pointer (some ⟨w2.heap.size, 0, none⟩) := by
          rintro y rfl
          obtain ⟨p, o', hp, ho, hy⟩ := (q4 0 (by simp) (by simp)).ptr_inv
          rw [Ren.add_same] at hp
          simp only [Option.some.injEq] at hp
          subst hp
          have : o' = 0 := by simp at ho; omega
          subst this
          exact hy
        have e4 : cs' = #[cs'[0]'(by omega)] := by
          apply Array.ext
          · simp [e2]
          · intro i a1 a2
            have : i = 0 := by omega
            subst this
            rfl
        rw [e1, e4, e3 _ e4]
    have hsz : args2.size = 1 := ha2.1.symm
    apply Array.ext
    · simp [hsz]
    · intro i a1 a2
      have : i = 0 := by omega
      subst this
      rw [Array.getElem?_eq_getElem a1] at hx1
      simp only [Option.some.injEq] at hx1
      rw [hx1, hx]
      rfl
  subst hargs
  refine (sorted_calls g3 hpm hm hkb hn hl g4).mono ?_
  rintro e w5 ⟨v5, rfl, ρ5, k1, k2, k3⟩
  refine ⟨v5, rfl, ?_⟩
  have hF5 := (hF3.mono k1.le).put k2 (t := k.t2) (by simpa using l2)
  rw [wpOps_cons]
  refine oper_wp hC k3 hF5 (o := o3) (by rw [hget, List.getElem?_append_right (by omega), show l0.length + 2 - l0.length = 2 from by omega]; rfl) h5 he3 ?_
  intro ρ6 a6 w6 q1 q2 q3
  exact hQ ρ6 a6 w6 (((g1.trans hg4).trans k1).trans q1) q2 q3
end Go.Proofs.Ythclmjelknibhaa.Ev
/- The names of a disk's files: the function, whole. -/
namespace Go.Proofs.Ythclmjelknibhaa.Ev
open Go Go.RowKit Go.Maps Go.Shelf
open Go.Proofs (encStr)
set_option linter.unusedVariables false
set_option linter.unusedSimpArgs false

theorem nmC_wp (hmx : Try.prog.follows .mixedOrders = true) {C : Callee} (hC : COk Try.prog C) {W0 : Fz} (n : Nat) {R : EX × AF × AW → Prop} {n0 : Nat} {ρ0 : Ren} : ∀ (c : Code) (k : NK), nmC Try.prog 61 60 c = some k → ∀ (ρ : Ren) (S : AW) (w : World) (F : AF) (a : Act), Grow n0 S.next ρ0 ρ → RelW W0 ρ S w → FRel ρ F a →
    RunN C n k F S R → c.wp Try.prog (PostR W0 n0 ρ0 R) a w := by
  intro c
  induction c with
  | seq x y _ ihy =>
    intro k hk ρ S w F a hg hw hF hR
    simp only [nmC] at hk
    split at hk
    · rename_i k' hk'
      simp only [Option.some.injEq] at hk
      subst hk
      obtain ⟨hp, hz, _⟩ := nmL_inv hk'
      unfold RunN at hR
      rw [hp] at hR
      simp only [goPre] at hR
      obtain ⟨F2, S2, m, es, ks, h1, h2, h3, h4, h5, h6, h7, h8, F4, S4, r, h9, h10, h11⟩ := hR
      refine nmL_wp hmx hC n hk' hw hF h1 h2 h3 h4 h5 h6 h7 h8 h9 ?_
      intro ρ' a' w' q1 q2 q3
      refine wp_mono (code_ok hmx hC n y k'.z hz ρ' S4 w' F4 a' r q3 q2 h10) ?_
      rintro e a2 w2 ⟨he, ρ2, k1, k2, k3⟩
      exact ⟨r, h11, he, ρ2, (hg.trans q1).trans k1, k2, k3⟩
    · split at hk
      · rename_i ea k' hea hk'
        simp only [Option.some.injEq] at hk
        subst hk
        unfold RunN at hR
        simp only [goPre] at hR
        cases h1 : evCode C n ea F S with
        | none => rw [h1] at hR; exact hR.elim
        | some r =>
          rw [h1] at hR
          refine wp_seq (wp_mono (code_ok hmx hC n x ea hea ρ S w F a r hw hF h1) ?_)
          rintro e a2 w2 ⟨rfl, ρ2, k1, k2, k3⟩
          obtain ⟨x', F', S'⟩ := r
          cases x' with
          | normal =>
            refine ihy k' hk' ρ2 S' w2 F' a2 (hg.trans k1) k3 k2 ?_
            unfold RunN
            exact hR
          | exit id => exact ⟨_, hR, rfl, ρ2, hg.trans k1, k2, k3⟩
          | ret => exact ⟨_, hR, rfl, ρ2, hg.trans k1, k2, k3⟩
      · cases hk
  | _ =>
    intro k hk ρ S w F a hg hw hF hR
    simp [nmC] at hk
def xNames (args : List Value) (S : AW) : Option (Value × AW) :=
  match args with
  | [.pointer none] => some (.slice none 0 0, S)
  | [.pointer (some ⟨d, 0, none⟩)] => match S.cell d 1 with
    | some (.map (some m)) => match S.mapv m with
      | some es => match keysB es with
        | some ks => if ks.Nodup ∧ es.length ≤ 1000 then some (namesV S m ks) else none
        | none => none
      | none => none
    | _ => none
  | _ => none
theorem names_ok (hmx : Try.prog.follows .mixedOrders = true) {C : Callee} (hC : COk Try.prog C) (n : Nat) {W0 : Fz} {ρ : Ren} {S : AW} {w : World} (h : RelW W0 ρ S w) {args : List Value} {args' : Array Value} (ha : ARel ρ args.toArray args') {v : Value} {S' : AW} (hx : xNames args S = some (v, S')) :
    (callFunc 24 args').run Try.prog w = .ok (.enter 24 args') w ∧ Calls Try.prog 24 args' w fun e w' => ∃ ρ' v', Grow S.next S'.next ρ ρ' ∧ e = .returned v' ∧ VRel ρ' v v' ∧ RelW W0 ρ' S' w' := by
  have he : RunN C n n24.k (AF.enter n24.ntmps args) S fun r => (∀ id, r.1 ≠ .exit id) ∧ ∃ vs, resV r.2.1 r.2.2 n24.results = some vs ∧ v = tupV vs ∧ S' = r.2.2 := by
    unfold xNames at hx
    split at hx
    · simp only [Option.some.injEq, Prod.mk.injEq] at hx
      obtain ⟨rfl, rfl⟩ := hx
      simp [RunN, n24, goPre, evCode, evOps, evOper, evStep, EOp.run, AF.ev, put1, AF.dst, thenN, AF.enter, AF.get, AF.put, getL, putL, nilV, flat, scalar, resV, tupV]
    · rename_i d
      split at hx
      · rename_i m h1
        split at hx
        · rename_i es hes
          split at hx
          · rename_i ks hks
            split at hx
            · rename_i hq
              simp only [Option.some.injEq] at hx
              obtain ⟨F1, e1, e2, e3⟩ : ∃ F1, goPre C n n24.k.pre (AF.enter n24.ntmps [.pointer (some ⟨d, 0, none⟩)]) S = some (.normal, F1, S) ∧ F1.n = 11 ∧ F1.get 0 = .pointer (some ⟨d, 0, none⟩) := by
                refine ⟨_, by simp [n24, goPre, evCode, evOps, evOper, evStep, EOp.run, AF.ev, put1, AF.dst, thenN, AF.enter, AF.get_put, AF.get, AF.put, getL, putL, nilV, flat, scalar, AW.ldV]; rfl, rfl, rfl⟩
              obtain ⟨F2, e5, e6, e7⟩ : ∃ F2, evOps C n24.k.el0 F1 S = some (F2, S) ∧ F2.n = 11 ∧ F2.get 8 = .map (some m) := by
                refine ⟨_, by simp [n24, evOps, evOper, evStep, EOp.run, AF.ev, put1, AF.dst, e2, e3, AW.ldV, h1]; rfl, ?_, ?_⟩ <;> simp [e2]
              unfold RunN
              rw [e1]
              refine ⟨F2, S, m, es, ks, e5, e7, hes, hks, hq.1, hq.2, by rw [e6]; decide, by rw [e6]; decide, _, _, _, by simp [n24, evOper, evStep, EOp.run, AF.ev, put1, AF.dst, e6]; exact ⟨rfl, rfl⟩, rfl, by simp, _, by simp [n24, resV]; rfl, ?_, ?_⟩
              · rw [hx]; rfl
              · show S' = (namesV S m ks).2; rw [hx]
            · cases hx
          · cases hx
        · cases hx
      · cases hx
    · cases hx
  refine ⟨enter24 _ _, ?_⟩
  have hc := k24
  unfold nmF at hc
  split at hc
  · rename_i fn hfn
    split at hc
    · rename_i c hb
      split at hc
      · rename_i k rs hec hrs
        split at hc
        · cases hc
        · rename_i hname
          simp only [Option.some.injEq] at hc
          obtain ⟨hn1, hn2, hn3⟩ : fn.ntmps = n24.ntmps ∧ k = n24.k ∧ rs = n24.results := by rw [← hc]; exact ⟨rfl, rfl, rfl⟩
          rw [← hn1, ← hn2, ← hn3] at he
          refine calls_of_wp hfn hb ?_
          have hlen : args.length = args'.size := by simpa using ha.1
          have hF : FRel ρ (AF.enter fn.ntmps args) { tmps := args' ++ Array.replicate (fn.ntmps - args'.size) undef, defers := [] } := by
            refine ⟨by simp [AF.enter, hlen], fun t => ?_, rfl⟩
            rw [enter_get]
            simp only [Array.getD_eq_getD_getElem?]
            by_cases ht : t < args.length
            · have h1 : t < args'.size := by omega
              rw [List.getElem?_eq_getElem ht, Array.getElem?_append_left h1, Array.getElem?_eq_getElem h1]
              exact ha.2 t (by simpa using ht) h1
            · rw [List.getElem?_eq_none (by omega), Array.getElem?_append_right (by omega), Array.getElem?_replicate]
              split <;> exact .undef
          refine wp_mono (nmC_wp hmx hC n c k hec ρ S w _ _ (Grow.refl _ ρ) h hF he) ?_
          rintro e a' w' ⟨⟨x, F', S1⟩, ⟨hx, vs, hvs, rfl, rfl⟩, rfl, ρ', q1, q2, q3⟩
          have fin : a'.defers = [] ∧ ∃ v', (results fn a'.tmps).run Try.prog w' = .ok v' w' ∧ ∃ ρ' v'', Grow S.next S'.next ρ ρ' ∧ Ending.returned v' = .returned v'' ∧ VRel ρ' (tupV vs) v'' ∧ RelW W0 ρ' S' w' := by
            refine ⟨q2.defers, ?_⟩
            obtain ⟨vs', k1, k2⟩ := res_ok q3 q2 fn.results.toList rs vs hrs hvs
            have hmap : (fn.results.mapM (resOne a'.tmps)).run Try.prog w' = .ok vs'.toArray w' := by
              rw [Array.mapM_eq_mapM_toList, Sem.run_map, k1]
              rfl
            have hsz : vs.length = vs'.length := by have := k2.1; simpa using this
            refine ⟨if h : vs'.toArray.size = 1 then vs'.toArray[0] else .tuple vs'.toArray, ?_, ρ', _, q1, rfl, ?_, q3⟩
            · rw [results_eq, Sem.run_bind, hmap]
              rfl
            · unfold tupV
              split
              · rename_i v1
                have h1 : vs'.length = 1 := by rw [← hsz]; rfl
                rw [dif_pos (by simpa using h1)]
                have := k2.2 0 (by simp) (by simp [h1])
                simpa using this
              · rename_i hne
                have h1 : ¬ vs'.length = 1 := by
                  intro h1
                  obtain ⟨x, hx⟩ := List.length_eq_one_iff.mp (hsz.trans h1)
                  exact hne x hx
                rw [dif_neg (by simpa using h1)]
                exact .tuple' k2
          cases x with
          | normal => exact fin
          | ret => exact fin
          | exit id => exact absurd rfl (hx id)
      · cases hc
    · cases hc
  · cases hc
end Go.Proofs.Ythclmjelknibhaa.Ev
