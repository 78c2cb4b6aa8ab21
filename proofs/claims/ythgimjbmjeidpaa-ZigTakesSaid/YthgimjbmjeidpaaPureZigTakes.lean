/- ZigTakes, the plain law: what Put has put, Take takes back, if it has no more bits, whatever stands behind, and cut off it is short. No condition. -/
import Derived.Test.YthgimjbmjeidpaaZigPlain
namespace Go.Proofs.Ythgimjbmjeidpaa.Pure
open Go.RowKit Go.Proofs.Ythgimjbmjeidpaa.PZig Go.Proofs.YthgimjbmjeidpaaW.PrintWords Go.Proofs.YthgimjbmjeidpaaW.PrintLast Go.Proofs.YthgimjbmjeidpaaW.PrintMore Go.Proofs.Ythgimjbmjeidpaa.Aid Go.Proofs.Ythgimjbmjeidpaa.Zig

theorem ZigTakes : assayerlaw2_ZigTakes.Pure := by
  intro a b more c ha hb _ _ hm hc
  obtain ⟨ha0, ha1⟩ := wf_u64 ha
  obtain ⟨hb0, hb1⟩ := wf_u8 hb
  obtain ⟨n, rfl⟩ := Int.eq_ofNat_of_zero_le ha0
  have hn : n < 2 ^ 64 := by omega
  have hl10 := venc_len10 n hn
  have hlp := venc_pos n
  refine ⟨99 + 1, ?_⟩
  rw [assayerlaw2_ZigTakes.f, zigBegun, Option.bind_some, if_pos rfl]
  by_cases hmore : (more.length : Int) > 10
  · rw [if_pos hmore]
  · obtain ⟨p, hp1, hp2⟩ := place_f c (venc n).length hlp (by omega)
    rw [if_neg hmore, put_f n (99 + 1) hn (by omega), Option.bind_some, Option.bind_some, if_pos (by rw [List.length_nil]; omega), Option.bind_some, List.nil_append, if_pos (by omega)]
    have hm64 : Int.tmod b 64 = b % 64 := Int.tmod_eq_emod_of_nonneg hb0
    obtain ⟨q, hq⟩ : ∃ q : Nat, wrap64 (1 + wrap64 (Int.tmod b 64)) = (q : Int) ∧ 1 ≤ q ∧ q ≤ 64 := by
      refine ⟨(1 + b % 64).toNat, ?_⟩
      rw [hm64, w64 (x := b % 64) (by omega) (by omega), w64 (by omega) (by omega)]
      omega
    obtain ⟨hq, hq1, hq2⟩ := hq
    rw [hq]
    have t1 := take_venc n 99 q 0 0 0 (venc n ++ more) more (by simp) (by omega) hq2 (by omega) (by omega) (by rw [List.length_append]; omega) (by omega)
    have t2 := take_cut n 99 p 0 0 0 ((venc n).take p) (by simp) hp1 (by omega) (by omega) (by omega) (by rw [List.length_take]; omega) (by omega) (by omega)
    have f1 : zig_Take.f (99 + 1) (venc n ++ more) (q : Int) = _ := (take_f hq1 hq2).trans t1
    have f2 : zig_Take.f (99 + 1) ((venc n).take p) (64 : Int) = _ := (take_f (b := 64) (by omega) (by omega)).trans t2
    rw [f1, Option.bind_some, hp2, Option.bind_some, if_pos (by omega), if_pos (by omega), Int.toNat_natCast, f2, Option.bind_some, if_pos rfl]
    simp only [Nat.pow_zero, Nat.mul_one, Nat.zero_add, Nat.sub_zero]
    by_cases h64 : (q : Int) < 64
    · rw [if_pos h64, if_pos (by omega)]
      have hs : shr .u64 (n : Int) (q : Int) = ((n / 2 ^ q : Nat) : Int) := by
        unfold shr
        rw [Int.toNat_natCast, Nat.min_eq_left (by simp only [IntKind.bits]; omega)]
        push_cast
        rfl
      rw [hs]
      have hpq : 0 < 2 ^ q := Nat.two_pow_pos _
      by_cases hc : n < 2 ^ q
      · rw [if_pos (by rw [Nat.div_eq_of_lt hc]; rfl), if_pos hc]
        rw [if_pos rfl, if_pos rfl, beq_self_eq_true]
      · have := Nat.div_pos (show 2 ^ q ≤ n by omega) hpq
        rw [if_neg (by omega), if_neg hc, if_pos rfl]
        rfl
    · obtain rfl : q = 64 := by omega
      rw [if_neg h64, if_pos hn]
      rw [if_pos rfl, if_pos rfl, beq_self_eq_true]


end Go.Proofs.Ythgimjbmjeidpaa.Pure
