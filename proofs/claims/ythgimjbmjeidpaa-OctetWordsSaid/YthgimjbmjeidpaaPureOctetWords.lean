/- OctetWords, the plain law: how numbers stand in bytes, and what bytes say, is the document's. No condition. -/
import Derived.Test.YthgimjbmjeidpaaOctetRef
namespace Go.Proofs.Ythgimjbmjeidpaa.Pure
open Go.RowKit Go.Proofs.Ythgimjbmjeidpaa.POctet Go.Proofs.YthgimjbmjeidpaaW.PrintWords Go.Proofs.YthgimjbmjeidpaaW.PrintLast Go.Proofs.YthgimjbmjeidpaaW.PrintMore Go.Proofs.Ythgimjbmjeidpaa.Aid Go.Proofs.Ythgimjbmjeidpaa.Octet

theorem take_bad (L : List Int) (n : Int) (h : n < 0 ∨ 8 < n) (k : Nat) : octet_Take.f (k + 1) L n = some (0, 1) := by
  rw [octet_Take.f]
  rcases h with h | h
  · rw [if_pos h]; simp only [octet_Take.j0]; rw [if_pos trivial]
  · rw [if_neg (by omega), decide_eq_true (by omega)]; simp only [octet_Take.j0]; rw [if_pos trivial]
theorem rtake_bad (L : List Int) (n : Int) (h : n < 0 ∨ 8 < n) (k : Nat) : assayerref1_Take.f (k + 1) L n = some (0, 1) := by
  rw [assayerref1_Take.f]
  rcases h with h | h
  · rw [if_pos h]; simp only [assayerref1_Take.j0]; rw [if_pos trivial]
  · rw [if_neg (by omega), decide_eq_true (by omega)]; simp only [assayerref1_Take.j0]; rw [if_pos trivial]
theorem put_bad (L : List Int) (hl : L.length < 1000000000000) (v n : Int) (h : n < 0 ∨ 8 < n) (k : Nat) (hk : 30 < k) : octet_Put.f (k + 1) L v n = some L := by
  have h0 := put_ok L hl v 0 (k + 1) (by omega) (by omega)
  rw [octet_Put.f, if_neg (by decide), show decide (((0 : Nat) : Int) > 8) = false by decide] at h0
  simp only [octet_Put.j0] at h0
  rw [if_neg (by decide), beb, List.append_nil] at h0
  rw [octet_Put.f]
  rcases h with h | h
  · rw [if_pos h]; simp only [octet_Put.j0]; rw [if_pos trivial]; exact h0
  · rw [if_neg (by omega), decide_eq_true (by omega)]; simp only [octet_Put.j0]; rw [if_pos trivial]; exact h0
theorem rput_bad (L : List Int) (hl : L.length < 1000000000000) (v n : Int) (h : n < 0 ∨ 8 < n) (k : Nat) : assayerref1_Put.f (k + 1) L v n = some L := by
  rw [assayerref1_Put.f, Option.bind_some, if_pos (by simp; omega), Option.bind_some, List.nil_append]
  rcases h with h | h
  · rw [if_pos h]; simp only [assayerref1_Put.j0]; rw [if_pos trivial]
  · rw [if_neg (by omega), decide_eq_true (by omega)]; simp only [assayerref1_Put.j0]; rw [if_pos trivial]
theorem words_main (L : List Int) (hL : Bytes L) (hl : L.length ≤ 30) (v n : Int) (v0 : 0 ≤ v) (v1 : v ≤ 18446744073709551615) :
    ∃ t p, octet_Take.f 101 L n = some t ∧ assayerref1_Take.f 101 L n = some t ∧ octet_Put.f 101 L v n = some p ∧ assayerref1_Put.f 101 L v n = some p := by
  by_cases h : n < 0 ∨ 8 < n
  · exact ⟨_, _, take_bad L n h 100, rtake_bad L n h 100, put_bad L (by omega) v n h 100 (by omega), rput_bad L (by omega) v n h 100⟩
  · obtain ⟨m, rfl⟩ := Int.eq_ofNat_of_zero_le (show 0 ≤ n by omega)
    have hm : m ≤ 8 := by omega
    by_cases c : m ≤ L.length
    · exact ⟨_, _, take_ok L hL (by omega) m 101 hm c (by omega), rtake_ok L hL (by omega) m 101 hm c (by omega), put_ok L (by omega) v m 101 hm (by omega), rput_ok L (by omega) v v0 v1 m 101 hm (by omega)⟩
    · exact ⟨_, _, take_short L m 101 hm (by omega) (by omega), rtake_short L m 101 hm (by omega) (by omega), put_ok L (by omega) v m 101 hm (by omega), rput_ok L (by omega) v v0 v1 m 101 hm (by omega)⟩
theorem OctetWords : assayerlaw1_OctetWords.Pure := by
  intro L v n _ _ hL hv _
  have bv := wf_u64 hv
  refine ⟨101, ?_⟩
  rw [assayerlaw1_OctetWords.f, assayerlaw1_begun.f, Option.bind_some, if_pos rfl]
  by_cases c : (L.length : Int) > 30
  · rw [if_pos c]
  · obtain ⟨t, p, h1, h2, h3, h4⟩ := words_main L (Bytes.of_wf hL) (by omega) v n bv.1 bv.2
    rw [if_neg c, assayerlaw0_Twin.f, if_pos (by omega), Option.bind_some, h1, Option.bind_some, h2, Option.bind_some, h3, Option.bind_some, if_pos rfl, if_pos rfl, h4, Option.bind_some, if_pos rfl, assayerlaw0_Kept.f, if_pos ⟨rfl, by omega⟩, Option.bind_some]
end Go.Proofs.Ythgimjbmjeidpaa.Pure
