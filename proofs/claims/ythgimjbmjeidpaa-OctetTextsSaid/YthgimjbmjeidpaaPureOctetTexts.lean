/- OctetTexts, the plain law: texts that stand one behind the other are taken as they were put, and any bytes are taken as the document says. No condition. -/
import Derived.Test.YthgimjbmjeidpaaOctetPlain
namespace Go.Proofs.Ythgimjbmjeidpaa.Pure
open Go.RowKit Go.Proofs.Ythgimjbmjeidpaa.POctet Go.Proofs.YthgimjbmjeidpaaW.PrintWords Go.Proofs.YthgimjbmjeidpaaW.PrintLast Go.Proofs.YthgimjbmjeidpaaW.PrintMore Go.Proofs.Ythgimjbmjeidpaa.Aid Go.Proofs.Ythgimjbmjeidpaa.Octet

theorem texts_yes (s u : ByteArray) (L : List Int) (hs : s.size ≤ 60) (hu : u.size ≤ 60) (hL : Bytes L) (hl : L.length ≤ 60) (k : Nat) : assayerlaw1_OctetTexts.j0 (k + 30) s u L false = some true := by
  simp only [assayerlaw1_OctetTexts.j0]
  rw [if_neg (by decide), tt_ok L hL (by omega) _ (by omega), rtt_ok L hL (by omega) _ (by omega), Option.bind_some, Option.bind_some, if_pos rfl, if_pos rfl, bne_self_eq_false]
  simp only [assayerlaw1_OctetTexts.j1]
  rw [if_neg (by decide), puttext_ok [] (by simp) s (by omega) _ (by omega), Option.bind_some, List.nil_append]
  have hw : (beb (s.size : Int) 4 ++ bytesOf s).length = 4 + s.size := by rw [List.length_append, beb_length, bytesOf_length]
  have hw2 : (beb (s.size : Int) 4 ++ bytesOf s ++ beb (u.size : Int) 4 ++ bytesOf u).length = 8 + s.size + u.size := by
    rw [List.length_append, List.length_append, hw, beb_length, bytesOf_length]; omega
  have hB1 : Bytes (beb (u.size : Int) 4 ++ bytesOf u) := (beb_bytes 4 _).app (Bytes.of u)
  have hB : Bytes (beb (s.size : Int) 4 ++ bytesOf s ++ beb (u.size : Int) 4 ++ bytesOf u) := (((beb_bytes 4 _).app (Bytes.of s)).app (beb_bytes 4 _)).app (Bytes.of u)
  have e1 : tt (beb (s.size : Int) 4 ++ bytesOf s ++ beb (u.size : Int) 4 ++ bytesOf u) = (s, 4 + (s.size : Int), 0) := by
    rw [List.append_assoc _ (beb (u.size : Int) 4)]
    exact tt_put s (by omega) _
  have e2 : (beb (s.size : Int) 4 ++ bytesOf s ++ beb (u.size : Int) 4 ++ bytesOf u).drop (4 + (s.size : Int)).toNat = beb (u.size : Int) 4 ++ bytesOf u := by
    rw [List.append_assoc _ (beb (u.size : Int) 4), show (4 + (s.size : Int)).toNat = 4 + s.size by omega, ← hw]
    exact List.drop_left
  have e3 : tt (beb (u.size : Int) 4 ++ bytesOf u) = (u, 4 + (u.size : Int), 0) := by
    have := tt_put u (by omega) []
    rwa [List.append_nil] at this
  rw [puttext_ok _ (by rw [hw]; omega) u (by omega) _ (by omega), Option.bind_some, tt_ok _ hB (by rw [hw2]; omega) _ (by omega), Option.bind_some, e1]
  dsimp only
  rw [if_pos rfl, if_pos rfl, if_pos (by rw [w64 (by omega) (by omega)]), if_neg (by rw [hw2]; omega), if_pos (by omega), if_pos (by rw [hw2]; omega), e2]
  rw [tt_ok _ hB1 (by rw [List.length_append, beb_length, bytesOf_length]; omega) _ (by omega), Option.bind_some, e3]
  dsimp only
  rw [if_pos rfl, if_pos rfl, hw2, w64 (by omega) (by omega)]
  congr 1
  rw [beq_iff_eq]
  omega

theorem OctetTexts : assayerlaw1_OctetTexts.Pure := by
  intro s u L _ _ _ _ hb
  have hL := Bytes.of_wf hb
  have yes : ∀ k, assayerlaw1_OctetTexts.j0 (k + 1) s u L true = some true := by
    intro k
    simp only [assayerlaw1_OctetTexts.j0]
    rw [if_pos trivial]
  refine ⟨0 + 30, ?_⟩
  rw [assayerlaw1_OctetTexts.f, assayerlaw1_begun.f, Option.bind_some, if_pos rfl]
  by_cases h1 : (s.size : Int) > 60
  · rw [if_pos h1]; exact yes 29
  · rw [if_neg h1]
    by_cases h2 : (u.size : Int) > 60
    · rw [if_pos h2]; exact yes 29
    · rw [if_neg h2]
      by_cases h3 : (L.length : Int) > 60
      · rw [decide_eq_true h3]; exact yes 29
      · rw [decide_eq_false h3]
        exact texts_yes s u L (by omega) (by omega) hL (by omega) 0

end Go.Proofs.Ythgimjbmjeidpaa.Pure
