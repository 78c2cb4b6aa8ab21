/- ZigAll, the plain law: signs to and fro, and which bytes are numbers, are the document's. No condition. -/
import Derived.Test.YthgimjbmjeidpaaZigRef
namespace Go.Proofs.Ythgimjbmjeidpaa.Pure
open Go.RowKit Go.Proofs.Ythgimjbmjeidpaa.PZig Go.Proofs.YthgimjbmjeidpaaW.PrintWords Go.Proofs.YthgimjbmjeidpaaW.PrintLast Go.Proofs.YthgimjbmjeidpaaW.PrintMore Go.Proofs.Ythgimjbmjeidpaa.Aid Go.Proofs.Ythgimjbmjeidpaa.Zig

theorem ZigAll : assayerlaw2_ZigAll.Pure := by
  intro a b c d L n ha hb hc hd _ _ hL _
  have wa := wf_i32 ha
  have wb := wf_u32 hb
  have wc := wf_i64 hc
  have wd := wf_u64 hd
  obtain ⟨e, rfl⟩ := Int.eq_ofNat_of_zero_le wd.1
  have he : e < 2 ^ 64 := by omega
  refine ⟨100, ?_⟩
  have hbg : assayerlaw2_begun.f 100 = some true := zigBegun
  rw [assayerlaw2_ZigAll.f, hbg, Option.bind_some, if_pos rfl]
  by_cases c1 : (L.length : Int) > 20
  · rw [if_pos c1]
  · obtain ⟨r, h1, h2⟩ := takes_all L (fun x hx => wf_u8 (hL x hx)) (by omega) n
    rw [if_neg c1, assayerlaw0_Twin.f, if_pos (by omega), Option.bind_some, h1, Option.bind_some, h2, Option.bind_some, zig32 wa.1 wa.2, Option.bind_some, rzig32 wa.1 wa.2, Option.bind_some, if_pos rfl]
    rw [zag32 wb.1 wb.2, Option.bind_some, rzag32 wb.1 wb.2, Option.bind_some, if_pos rfl, zig64 wc.1 wc.2, Option.bind_some, rzig64 wc.1 wc.2, Option.bind_some, if_pos rfl]
    rw [zag64 wd.1 wd.2, Option.bind_some, rzag64 wd.1 wd.2, Option.bind_some, if_pos rfl, if_pos rfl, if_pos rfl, if_pos rfl]
    rw [put_all L (by omega) e 100 he (by omega), Option.bind_some, rput_all L (by omega) e 100 he (by omega), Option.bind_some, if_pos rfl, assayerlaw0_Kept.f, if_pos ⟨rfl, by omega⟩, Option.bind_some]
end Go.Proofs.Ythgimjbmjeidpaa.Pure
