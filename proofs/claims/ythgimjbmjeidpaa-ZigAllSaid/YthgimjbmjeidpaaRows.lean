/-
  No cell of these rows narrows 'for every input' (looked for: loops, veiled, ifaces, maps, wideKeys, modest, calm, conditions, laid).
  DERIVED. THE GIVEN ROWS OF THIS SEAT. 11 by the template 'for every input the law returns true; each argument reads behind the call as it read before'; 0 by the template 'total and deterministic' (their statements: YthgimjbmjeidpaaTotals.lean).
  GIVEN WITH THE SEED: the statements are not yours to turn. If you find one false, say at which input.
  Laid BY PROGRAM, IN A SANDBOX (cutbox-rows.mjs): the forced cells as the released guide's own fill.sh prints them over the translation 641cc0b76f65e81b… (all of the seat's roots in one cut). By AI agents, Wed Nov 11 2026. No macro, syntax, notation, axiom, sorry.
-/
import Derived.Test.YthgimjbmjeidpaaChecked
import GoSem.Claim
import GoSem.ClaimJoined
import GoSem.ClaimMapViews
import Derived.JoinedTies
import Derived.KernelRfl
namespace Go.Proofs.Ythgimjbmjeidpaa
/- THE CELL 'sum', in the pinned program and in every row, IS THE sha256 OF THE DUMP (.gsa) THAT YthgimjbmjeidpaaProg.lean LOADS. Nothing in Lean hashes anything: it is a label: what it is worth is what the hold of that sum in a sandbox is worth. -/
noncomputable def Try.pinned : Pinned := { name := "ythgimjbmjeidpaa", sum := "641cc0b76f65e81be8ae982e236f7e12bb7ff583bd1361a58d8cb042f9de2ae7", checked := Try.checked }
namespace Rows
def none {H : Type} : Left H := { results := [], args := [] }

/-- 'assayerlaw2.ZigAll': WHATEVER THE INPUT: true; the input reads as it did. -/
def zigAllSpec : ChangeSpec := { name := "zigAll", fn := fun _ => fun
  | [d1, d2, d3, d4, d5, d6] => { results := [.lit (.bool true)], args := [d1, d2, d3, d4, d5, d6] }
  | _ => none }
def zigAllRow : OpenClaim := { program := "ythgimjbmjeidpaa", sum := "641cc0b76f65e81be8ae982e236f7e12bb7ff583bd1361a58d8cb042f9de2ae7", func := "assayer/assayerlaw2.ZigAll", spec := "zigAll", apart := false }
def ZigAllSaid : Prop := zigAllRow.holds Try.pinned (OpenSpec.ofChange zigAllSpec)

/-- ITS FALSE NEIGHBOUR: 'it returns false'. Refute it at one input. -/
def zigAllWrong : ChangeSpec := { name := "zigAll", fn := fun _ => fun
  | [d1, d2, d3, d4, d5, d6] => { results := [.lit (.bool false)], args := [d1, d2, d3, d4, d5, d6] }
  | _ => none }
def ZigAllWrongFalsely : Prop := zigAllRow.holds Try.pinned (OpenSpec.ofChange zigAllWrong)

/-- 'assayerlaw2.ZigBack': WHATEVER THE INPUT: true; the input reads as it did. -/
def zigBackSpec : ChangeSpec := { name := "zigBack", fn := fun _ => fun
  | [d1, d2, d3, d4] => { results := [.lit (.bool true)], args := [d1, d2, d3, d4] }
  | _ => none }
def zigBackRow : OpenClaim := { program := "ythgimjbmjeidpaa", sum := "641cc0b76f65e81be8ae982e236f7e12bb7ff583bd1361a58d8cb042f9de2ae7", func := "assayer/assayerlaw2.ZigBack", spec := "zigBack", apart := false }
def ZigBackSaid : Prop := zigBackRow.holds Try.pinned (OpenSpec.ofChange zigBackSpec)

/-- ITS FALSE NEIGHBOUR: 'it returns false'. Refute it at one input. -/
def zigBackWrong : ChangeSpec := { name := "zigBack", fn := fun _ => fun
  | [d1, d2, d3, d4] => { results := [.lit (.bool false)], args := [d1, d2, d3, d4] }
  | _ => none }
def ZigBackWrongFalsely : Prop := zigBackRow.holds Try.pinned (OpenSpec.ofChange zigBackWrong)

/-- 'assayerlaw2.ZigTakes': WHATEVER THE INPUT: true; the input reads as it did. -/
def zigTakesSpec : ChangeSpec := { name := "zigTakes", fn := fun _ => fun
  | [d1, d2, d3, d4] => { results := [.lit (.bool true)], args := [d1, d2, d3, d4] }
  | _ => none }
def zigTakesRow : OpenClaim := { program := "ythgimjbmjeidpaa", sum := "641cc0b76f65e81be8ae982e236f7e12bb7ff583bd1361a58d8cb042f9de2ae7", func := "assayer/assayerlaw2.ZigTakes", spec := "zigTakes", apart := false }
def ZigTakesSaid : Prop := zigTakesRow.holds Try.pinned (OpenSpec.ofChange zigTakesSpec)

/-- ITS FALSE NEIGHBOUR: 'it returns false'. Refute it at one input. -/
def zigTakesWrong : ChangeSpec := { name := "zigTakes", fn := fun _ => fun
  | [d1, d2, d3, d4] => { results := [.lit (.bool false)], args := [d1, d2, d3, d4] }
  | _ => none }
def ZigTakesWrongFalsely : Prop := zigTakesRow.holds Try.pinned (OpenSpec.ofChange zigTakesWrong)

/-- 'assayerlaw2.ZigForms': WHATEVER THE INPUT: true; the input reads as it did. -/
def zigFormsSpec : ChangeSpec := { name := "zigForms", fn := fun _ => fun
  | [] => { results := [.lit (.bool true)], args := [] }
  | _ => none }
def zigFormsRow : OpenClaim := { program := "ythgimjbmjeidpaa", sum := "641cc0b76f65e81be8ae982e236f7e12bb7ff583bd1361a58d8cb042f9de2ae7", func := "assayer/assayerlaw2.ZigForms", spec := "zigForms", apart := false }
def ZigFormsSaid : Prop := zigFormsRow.holds Try.pinned (OpenSpec.ofChange zigFormsSpec)

/-- ITS FALSE NEIGHBOUR: 'it returns false'. Refute it at one input. -/
def zigFormsWrong : ChangeSpec := { name := "zigForms", fn := fun _ => fun
  | [] => { results := [.lit (.bool false)], args := [] }
  | _ => none }
def ZigFormsWrongFalsely : Prop := zigFormsRow.holds Try.pinned (OpenSpec.ofChange zigFormsWrong)

/-- 'assayerlaw2.ZigSmall': WHATEVER THE INPUT: true; the input reads as it did. -/
def zigSmallSpec : ChangeSpec := { name := "zigSmall", fn := fun _ => fun
  | [d] => { results := [.lit (.bool true)], args := [d] }
  | _ => none }
def zigSmallRow : OpenClaim := { program := "ythgimjbmjeidpaa", sum := "641cc0b76f65e81be8ae982e236f7e12bb7ff583bd1361a58d8cb042f9de2ae7", func := "assayer/assayerlaw2.ZigSmall", spec := "zigSmall", apart := false }
def ZigSmallSaid : Prop := zigSmallRow.holds Try.pinned (OpenSpec.ofChange zigSmallSpec)

/-- ITS FALSE NEIGHBOUR: 'it returns false'. Refute it at one input. -/
def zigSmallWrong : ChangeSpec := { name := "zigSmall", fn := fun _ => fun
  | [d] => { results := [.lit (.bool false)], args := [d] }
  | _ => none }
def ZigSmallWrongFalsely : Prop := zigSmallRow.holds Try.pinned (OpenSpec.ofChange zigSmallWrong)

/-- 'assayerlaw1.OctetWords': WHATEVER THE INPUT: true; the input reads as it did. -/
def octetWordsSpec : ChangeSpec := { name := "octetWords", fn := fun _ => fun
  | [d1, d2, d3] => { results := [.lit (.bool true)], args := [d1, d2, d3] }
  | _ => none }
def octetWordsRow : OpenClaim := { program := "ythgimjbmjeidpaa", sum := "641cc0b76f65e81be8ae982e236f7e12bb7ff583bd1361a58d8cb042f9de2ae7", func := "assayer/assayerlaw1.OctetWords", spec := "octetWords", apart := false }
def OctetWordsSaid : Prop := octetWordsRow.holds Try.pinned (OpenSpec.ofChange octetWordsSpec)

/-- ITS FALSE NEIGHBOUR: 'it returns false'. Refute it at one input. -/
def octetWordsWrong : ChangeSpec := { name := "octetWords", fn := fun _ => fun
  | [d1, d2, d3] => { results := [.lit (.bool false)], args := [d1, d2, d3] }
  | _ => none }
def OctetWordsWrongFalsely : Prop := octetWordsRow.holds Try.pinned (OpenSpec.ofChange octetWordsWrong)

/-- 'assayerlaw1.OctetSigns': WHATEVER THE INPUT: true; the input reads as it did. -/
def octetSignsSpec : ChangeSpec := { name := "octetSigns", fn := fun _ => fun
  | [d1, d2, d3] => { results := [.lit (.bool true)], args := [d1, d2, d3] }
  | _ => none }
def octetSignsRow : OpenClaim := { program := "ythgimjbmjeidpaa", sum := "641cc0b76f65e81be8ae982e236f7e12bb7ff583bd1361a58d8cb042f9de2ae7", func := "assayer/assayerlaw1.OctetSigns", spec := "octetSigns", apart := false }
def OctetSignsSaid : Prop := octetSignsRow.holds Try.pinned (OpenSpec.ofChange octetSignsSpec)

/-- ITS FALSE NEIGHBOUR: 'it returns false'. Refute it at one input. -/
def octetSignsWrong : ChangeSpec := { name := "octetSigns", fn := fun _ => fun
  | [d1, d2, d3] => { results := [.lit (.bool false)], args := [d1, d2, d3] }
  | _ => none }
def OctetSignsWrongFalsely : Prop := octetSignsRow.holds Try.pinned (OpenSpec.ofChange octetSignsWrong)

/-- 'assayerlaw1.OctetTexts': WHATEVER THE INPUT: true; the input reads as it did. -/
def octetTextsSpec : ChangeSpec := { name := "octetTexts", fn := fun _ => fun
  | [d1, d2, d3] => { results := [.lit (.bool true)], args := [d1, d2, d3] }
  | _ => none }
def octetTextsRow : OpenClaim := { program := "ythgimjbmjeidpaa", sum := "641cc0b76f65e81be8ae982e236f7e12bb7ff583bd1361a58d8cb042f9de2ae7", func := "assayer/assayerlaw1.OctetTexts", spec := "octetTexts", apart := false }
def OctetTextsSaid : Prop := octetTextsRow.holds Try.pinned (OpenSpec.ofChange octetTextsSpec)

/-- ITS FALSE NEIGHBOUR: 'it returns false'. Refute it at one input. -/
def octetTextsWrong : ChangeSpec := { name := "octetTexts", fn := fun _ => fun
  | [d1, d2, d3] => { results := [.lit (.bool false)], args := [d1, d2, d3] }
  | _ => none }
def OctetTextsWrongFalsely : Prop := octetTextsRow.holds Try.pinned (OpenSpec.ofChange octetTextsWrong)

/-- 'assayerlaw1.OctetSeals': WHATEVER THE INPUT: true; the input reads as it did. -/
def octetSealsSpec : ChangeSpec := { name := "octetSeals", fn := fun _ => fun
  | [d1, d2] => { results := [.lit (.bool true)], args := [d1, d2] }
  | _ => none }
def octetSealsRow : OpenClaim := { program := "ythgimjbmjeidpaa", sum := "641cc0b76f65e81be8ae982e236f7e12bb7ff583bd1361a58d8cb042f9de2ae7", func := "assayer/assayerlaw1.OctetSeals", spec := "octetSeals", apart := false }
def OctetSealsSaid : Prop := octetSealsRow.holds Try.pinned (OpenSpec.ofChange octetSealsSpec)

/-- ITS FALSE NEIGHBOUR: 'it returns false'. Refute it at one input. -/
def octetSealsWrong : ChangeSpec := { name := "octetSeals", fn := fun _ => fun
  | [d1, d2] => { results := [.lit (.bool false)], args := [d1, d2] }
  | _ => none }
def OctetSealsWrongFalsely : Prop := octetSealsRow.holds Try.pinned (OpenSpec.ofChange octetSealsWrong)

/-- 'assayerlaw1.OctetTorn': WHATEVER THE INPUT: true; the input reads as it did. -/
def octetTornSpec : ChangeSpec := { name := "octetTorn", fn := fun _ => fun
  | [d1, d2, d3, d4] => { results := [.lit (.bool true)], args := [d1, d2, d3, d4] }
  | _ => none }
def octetTornRow : OpenClaim := { program := "ythgimjbmjeidpaa", sum := "641cc0b76f65e81be8ae982e236f7e12bb7ff583bd1361a58d8cb042f9de2ae7", func := "assayer/assayerlaw1.OctetTorn", spec := "octetTorn", apart := false }
def OctetTornSaid : Prop := octetTornRow.holds Try.pinned (OpenSpec.ofChange octetTornSpec)

/-- ITS FALSE NEIGHBOUR: 'it returns false'. Refute it at one input. -/
def octetTornWrong : ChangeSpec := { name := "octetTorn", fn := fun _ => fun
  | [d1, d2, d3, d4] => { results := [.lit (.bool false)], args := [d1, d2, d3, d4] }
  | _ => none }
def OctetTornWrongFalsely : Prop := octetTornRow.holds Try.pinned (OpenSpec.ofChange octetTornWrong)

/-- 'assayerlaw1.OctetSums': WHATEVER THE INPUT: true; the input reads as it did. -/
def octetSumsSpec : ChangeSpec := { name := "octetSums", fn := fun _ => fun
  | [d1, d2] => { results := [.lit (.bool true)], args := [d1, d2] }
  | _ => none }
def octetSumsRow : OpenClaim := { program := "ythgimjbmjeidpaa", sum := "641cc0b76f65e81be8ae982e236f7e12bb7ff583bd1361a58d8cb042f9de2ae7", func := "assayer/assayerlaw1.OctetSums", spec := "octetSums", apart := false }
def OctetSumsSaid : Prop := octetSumsRow.holds Try.pinned (OpenSpec.ofChange octetSumsSpec)

/-- ITS FALSE NEIGHBOUR: 'it returns false'. Refute it at one input. -/
def octetSumsWrong : ChangeSpec := { name := "octetSums", fn := fun _ => fun
  | [d1, d2] => { results := [.lit (.bool false)], args := [d1, d2] }
  | _ => none }
def OctetSumsWrongFalsely : Prop := octetSumsRow.holds Try.pinned (OpenSpec.ofChange octetSumsWrong)

/- THE SECOND FORM. 'bulk': how many values and letters a reading holds, each counted each time it is reached (what is shared counts as often as it is met; a slice's spare places count too). A statement '..UptoSaid' is the law's where the arguments, and the package variables that the reading takes, are together of bulk at most 1048576: NARROWER than '..Said'. Prove '..Said' where nothing that the law and all that it calls make is longer than what came in: it says more and counts as full. Else prove '..UptoSaid'. A law counts once. -/
mutual
def uptoBulk {H : Type} : DataW H → Nat
  | .lit (.string bytes) => bytes.length + 1
  | .lit _ => 1
  | .nil => 1
  | .ptr d => uptoBulk d + 1
  | .slice elems spare => uptoBulkAll elems + uptoBulkAll spare + 1
  | .agg parts => uptoBulkAll parts + 1
  | .iface _ d => uptoBulk d + 1
  | .map entries => uptoBulkEntries entries + 1
  | .held _ => 1
def uptoBulkAll {H : Type} : List (DataW H) → Nat
  | [] => 0
  | d :: r => uptoBulk d + uptoBulkAll r
def uptoBulkEntries {H : Type} : List (Lit × DataW H) → Nat
  | [] => 0
  | x :: r => uptoBulkEntry x + uptoBulkEntries r
def uptoBulkEntry {H : Type} : Lit × DataW H → Nat
  | (.string bytes, d) => bytes.length + uptoBulk d + 1
  | (_, d) => uptoBulk d + 1
 end
def uptoSmall : (H : Type) → List (DataW H) → Bool := fun _ ds => decide (uptoBulkAll ds ≤ 1048576)
def OpenSpec.upto (s : _root_.Go.ChangeSpec) : _root_.Go.OpenSpec := { _root_.Go.OpenSpec.ofChange s with cond := some uptoSmall }

/-- 'assayerlaw2.ZigAll', WHERE WHAT IT READS IS OF BULK AT MOST 1048576: true; the input reads as it did. -/
def zigAllUptoRow : OpenClaim := { program := "ythgimjbmjeidpaa", sum := "641cc0b76f65e81be8ae982e236f7e12bb7ff583bd1361a58d8cb042f9de2ae7", func := "assayer/assayerlaw2.ZigAll", spec := "zigAll", apart := false, narrowed := true }
def ZigAllUptoSaid : Prop := zigAllUptoRow.holds Try.pinned (OpenSpec.upto zigAllSpec)

/-- 'assayerlaw2.ZigBack', WHERE WHAT IT READS IS OF BULK AT MOST 1048576: true; the input reads as it did. -/
def zigBackUptoRow : OpenClaim := { program := "ythgimjbmjeidpaa", sum := "641cc0b76f65e81be8ae982e236f7e12bb7ff583bd1361a58d8cb042f9de2ae7", func := "assayer/assayerlaw2.ZigBack", spec := "zigBack", apart := false, narrowed := true }
def ZigBackUptoSaid : Prop := zigBackUptoRow.holds Try.pinned (OpenSpec.upto zigBackSpec)

/-- 'assayerlaw2.ZigTakes', WHERE WHAT IT READS IS OF BULK AT MOST 1048576: true; the input reads as it did. -/
def zigTakesUptoRow : OpenClaim := { program := "ythgimjbmjeidpaa", sum := "641cc0b76f65e81be8ae982e236f7e12bb7ff583bd1361a58d8cb042f9de2ae7", func := "assayer/assayerlaw2.ZigTakes", spec := "zigTakes", apart := false, narrowed := true }
def ZigTakesUptoSaid : Prop := zigTakesUptoRow.holds Try.pinned (OpenSpec.upto zigTakesSpec)

/-- 'assayerlaw2.ZigForms', WHERE WHAT IT READS IS OF BULK AT MOST 1048576: true; the input reads as it did. -/
def zigFormsUptoRow : OpenClaim := { program := "ythgimjbmjeidpaa", sum := "641cc0b76f65e81be8ae982e236f7e12bb7ff583bd1361a58d8cb042f9de2ae7", func := "assayer/assayerlaw2.ZigForms", spec := "zigForms", apart := false, narrowed := true }
def ZigFormsUptoSaid : Prop := zigFormsUptoRow.holds Try.pinned (OpenSpec.upto zigFormsSpec)

/-- 'assayerlaw2.ZigSmall', WHERE WHAT IT READS IS OF BULK AT MOST 1048576: true; the input reads as it did. -/
def zigSmallUptoRow : OpenClaim := { program := "ythgimjbmjeidpaa", sum := "641cc0b76f65e81be8ae982e236f7e12bb7ff583bd1361a58d8cb042f9de2ae7", func := "assayer/assayerlaw2.ZigSmall", spec := "zigSmall", apart := false, narrowed := true }
def ZigSmallUptoSaid : Prop := zigSmallUptoRow.holds Try.pinned (OpenSpec.upto zigSmallSpec)

/-- 'assayerlaw1.OctetWords', WHERE WHAT IT READS IS OF BULK AT MOST 1048576: true; the input reads as it did. -/
def octetWordsUptoRow : OpenClaim := { program := "ythgimjbmjeidpaa", sum := "641cc0b76f65e81be8ae982e236f7e12bb7ff583bd1361a58d8cb042f9de2ae7", func := "assayer/assayerlaw1.OctetWords", spec := "octetWords", apart := false, narrowed := true }
def OctetWordsUptoSaid : Prop := octetWordsUptoRow.holds Try.pinned (OpenSpec.upto octetWordsSpec)

/-- 'assayerlaw1.OctetSigns', WHERE WHAT IT READS IS OF BULK AT MOST 1048576: true; the input reads as it did. -/
def octetSignsUptoRow : OpenClaim := { program := "ythgimjbmjeidpaa", sum := "641cc0b76f65e81be8ae982e236f7e12bb7ff583bd1361a58d8cb042f9de2ae7", func := "assayer/assayerlaw1.OctetSigns", spec := "octetSigns", apart := false, narrowed := true }
def OctetSignsUptoSaid : Prop := octetSignsUptoRow.holds Try.pinned (OpenSpec.upto octetSignsSpec)

/-- 'assayerlaw1.OctetTexts', WHERE WHAT IT READS IS OF BULK AT MOST 1048576: true; the input reads as it did. -/
def octetTextsUptoRow : OpenClaim := { program := "ythgimjbmjeidpaa", sum := "641cc0b76f65e81be8ae982e236f7e12bb7ff583bd1361a58d8cb042f9de2ae7", func := "assayer/assayerlaw1.OctetTexts", spec := "octetTexts", apart := false, narrowed := true }
def OctetTextsUptoSaid : Prop := octetTextsUptoRow.holds Try.pinned (OpenSpec.upto octetTextsSpec)

/-- 'assayerlaw1.OctetSeals', WHERE WHAT IT READS IS OF BULK AT MOST 1048576: true; the input reads as it did. -/
def octetSealsUptoRow : OpenClaim := { program := "ythgimjbmjeidpaa", sum := "641cc0b76f65e81be8ae982e236f7e12bb7ff583bd1361a58d8cb042f9de2ae7", func := "assayer/assayerlaw1.OctetSeals", spec := "octetSeals", apart := false, narrowed := true }
def OctetSealsUptoSaid : Prop := octetSealsUptoRow.holds Try.pinned (OpenSpec.upto octetSealsSpec)

/-- 'assayerlaw1.OctetTorn', WHERE WHAT IT READS IS OF BULK AT MOST 1048576: true; the input reads as it did. -/
def octetTornUptoRow : OpenClaim := { program := "ythgimjbmjeidpaa", sum := "641cc0b76f65e81be8ae982e236f7e12bb7ff583bd1361a58d8cb042f9de2ae7", func := "assayer/assayerlaw1.OctetTorn", spec := "octetTorn", apart := false, narrowed := true }
def OctetTornUptoSaid : Prop := octetTornUptoRow.holds Try.pinned (OpenSpec.upto octetTornSpec)

/-- 'assayerlaw1.OctetSums', WHERE WHAT IT READS IS OF BULK AT MOST 1048576: true; the input reads as it did. -/
def octetSumsUptoRow : OpenClaim := { program := "ythgimjbmjeidpaa", sum := "641cc0b76f65e81be8ae982e236f7e12bb7ff583bd1361a58d8cb042f9de2ae7", func := "assayer/assayerlaw1.OctetSums", spec := "octetSums", apart := false, narrowed := true }
def OctetSumsUptoSaid : Prop := octetSumsUptoRow.holds Try.pinned (OpenSpec.upto octetSumsSpec)

end Rows
end Go.Proofs.Ythgimjbmjeidpaa
