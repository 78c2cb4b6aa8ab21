/- OctetSigns, the plain law: a number with its sign comes back by its low bytes, of each size. No condition. -/
import Derived.Test.YthgimjbmjeidpaaOctetPlain
namespace Go.Proofs.Ythgimjbmjeidpaa.Pure
open Go.RowKit Go.Proofs.Ythgimjbmjeidpaa.POctet Go.Proofs.YthgimjbmjeidpaaW.PrintWords Go.Proofs.YthgimjbmjeidpaaW.PrintLast Go.Proofs.YthgimjbmjeidpaaW.PrintMore Go.Proofs.Ythgimjbmjeidpaa.Aid Go.Proofs.Ythgimjbmjeidpaa.Octet

theorem signs_take (L : List Int) (v : Int) (n k : Nat) (more : List Int) (hL : L = beb v n ++ more) (hm : Bytes more) (hl : more.length < 100) (hn : n ≤ 8) (hv : 0 ≤ v) (hk : 20 < k) : octet_Take.f k L (n : Int) = some (v % ((256 ^ n : Nat) : Int), 0) := by
  subst hL
  rw [take_ok _ ((beb_bytes n v).app hm) (by rw [List.length_append, beb_length]; omega) n k hn (by rw [List.length_append, beb_length]; omega) hk]
  rw [List.take_left' (beb_length n v), be_beb n v hv]

theorem OctetSigns : assayerlaw1_OctetSigns.Pure := by
  intro x y z hx hy hz
  obtain ⟨hx0, hx1⟩ := wf_i64 hx
  obtain ⟨hy0, hy1⟩ := wf_i16 hy
  have hz2 := wf_u8 hz
  have hBz : Bytes [z] := fun q hq => by rw [List.mem_singleton] at hq; rw [hq]; exact hz2
  have hu : ∀ a : Int, 0 ≤ IntKind.u64.wrap a := fun a => by rw [IntKind.wrap_u64]; omega
  obtain ⟨a, ha⟩ : ∃ a, IntKind.u64.wrap x = a := ⟨_, rfl⟩
  obtain ⟨b, hb⟩ : ∃ b, IntKind.u64.wrap y = b := ⟨_, rfl⟩
  have hwy : wrap64 y = y := w64 (by omega) (by omega)
  have ha0 : 0 ≤ a := ha ▸ hu x
  have hb0 : 0 ≤ b := hb ▸ hu y
  refine ⟨(0 + 29) + 1, ?_⟩
  rw [assayerlaw1_OctetSigns.f, assayerlaw1_begun.f, Option.bind_some, if_pos rfl, hwy, ha, hb]
  have p1 : octet_Put.f (0 + 29 + 1) [] a 8 = _ := put_ok [] (by simp) a 8 _ (by omega) (by omega)
  have p2 : octet_Put.f (0 + 29 + 1) ([] ++ beb a 8) b 2 = _ := put_ok _ (by rw [List.length_append, beb_length]; simp) b 2 _ (by omega) (by omega)
  have p3 : octet_Put.f (0 + 29 + 1) ([] ++ beb a 8 ++ beb b 2) b 4 = _ := put_ok _ (by rw [List.length_append, List.length_append, beb_length, beb_length]; simp) b 4 _ (by omega) (by omega)
  have t1 : octet_Take.f (0 + 29 + 1) ([] ++ beb a 8 ++ beb b 2 ++ beb b 4) 8 = _ := signs_take _ a 8 _ (beb b 2 ++ beb b 4) (by simp) ((beb_bytes _ _).app (beb_bytes _ _)) (by rw [List.length_append, beb_length, beb_length]; omega) (by omega) ha0 (by omega)
  have hlen : ([] ++ beb a 8 ++ beb b 2 ++ beb b 4).length = 14 := by simp only [List.length_append, beb_length, List.length_nil]
  have d8 : ([] ++ beb a 8 ++ beb b 2 ++ beb b 4).drop 8 = beb b 2 ++ beb b 4 := by
    rw [List.nil_append, List.append_assoc]
    exact List.drop_left' (beb_length 8 a)
  have d10 : ([] ++ beb a 8 ++ beb b 2 ++ beb b 4).drop (10 : Int).toNat = beb b 4 := by
    rw [List.nil_append]
    exact List.drop_left' (by rw [List.length_append, beb_length, beb_length]; rfl)
  rw [p1, Option.bind_some, p2, Option.bind_some, p3, Option.bind_some, t1, Option.bind_some, if_pos rfl, hlen]
  rw [show (((14 : Nat) : Int) != 14) = false by decide]
  simp only [assayerlaw1_OctetSigns.j0]
  rw [if_neg (by decide), if_pos (by rw [hlen]; omega), d8]
  have t2 : octet_Take.f (0 + 29) (beb b 2 ++ beb b 4) 2 = _ := signs_take _ b 2 _ (beb b 4) rfl (beb_bytes _ _) (by rw [beb_length]; omega) (by omega) hb0 (by omega)
  have t3 : octet_Take.f (0 + 29) (beb b 4 ++ [z]) 4 = _ := signs_take _ b 4 _ [z] rfl hBz (by simp) (by omega) hb0 (by omega)
  rw [t2, Option.bind_some, if_pos (by rw [hlen]; omega), d10, Option.bind_some, if_pos (by rw [beb_length]; omega), t3, Option.bind_some, if_pos rfl, if_pos rfl]
  rw [if_pos (by rw [← ha, IntKind.wrap_u64]; unfold wrap64; omega)]
  have h16 : IntKind.i16.wrap (b % ((256 ^ 2 : Nat) : Int)) = y := by
    have e : IntKind.i16.wrap (b % ((256 ^ 2 : Nat) : Int)) = (b % ((256 ^ 2 : Nat) : Int) + 32768) % 65536 - 32768 := by
      simp [IntKind.wrap, IntKind.bits, IntKind.signed]
      split <;> omega
    rw [e, ← hb, IntKind.wrap_u64]
    omega
  rw [if_pos h16]
  congr 1
  rw [beq_iff_eq, ← hb, IntKind.wrap_u64]
  unfold wrap32
  omega

end Go.Proofs.Ythgimjbmjeidpaa.Pure
