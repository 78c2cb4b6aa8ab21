/- OctetSeals, the plain law: sums, sealed records and what is one are the document's. No condition. -/
import Derived.Test.YthgimjbmjeidpaaOctetRef
namespace Go.Proofs.Ythgimjbmjeidpaa.Pure
open Go.RowKit Go.Proofs.Ythgimjbmjeidpaa.POctet Go.Proofs.YthgimjbmjeidpaaW.PrintWords Go.Proofs.YthgimjbmjeidpaaW.PrintLast Go.Proofs.YthgimjbmjeidpaaW.PrintMore Go.Proofs.Ythgimjbmjeidpaa.Aid Go.Proofs.Ythgimjbmjeidpaa.Octet

theorem OctetSeals : assayerlaw1_OctetSeals.Pure := by
  intro a b _ _ ha _ _ hb
  have hA := Bytes.of_wf ha
  have hB := Bytes.of_wf hb
  have ht : assayerlaw1_OctetSeals.j0 1001 a b true = some true := by
    simp only [assayerlaw1_OctetSeals.j0]
    rw [if_pos trivial]
  refine ⟨1001, ?_⟩
  rw [assayerlaw1_OctetSeals.f, assayerlaw1_begun.f, Option.bind_some, if_pos rfl]
  by_cases c1 : (a.length : Int) > 80
  · rw [if_pos c1]; exact ht
  · rw [if_neg c1]
    by_cases c2 : (b.length : Int) > 80
    · rw [decide_eq_true c2]; exact ht
    · rw [decide_eq_false c2]
      simp only [assayerlaw1_OctetSeals.j0]
      rw [if_neg (by decide), useal_ok b hB (by omega) 1000 (by omega), Option.bind_some, ruseal_ok b hB (by omega) 1000 (by omega), Option.bind_some, slr_ok a hA (by omega) 1000 (by omega), Option.bind_some, sum_ok a hA (by omega) 1000 (by omega), Option.bind_some, rsum_ok a hA (by omega) 1000 (by omega), Option.bind_some, if_pos rfl, rslr_ok a hA (by omega) 1000 (by omega), Option.bind_some, if_pos rfl, if_pos rfl, if_pos rfl, beq_self_eq_true]
end Go.Proofs.Ythgimjbmjeidpaa.Pure
