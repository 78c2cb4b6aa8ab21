/-
  No cell of these rows narrows 'for every input' (looked for: loops, veiled, ifaces, maps, wideKeys, modest, calm, conditions, laid).
  DERIVED. THE GIVEN ROWS OF THIS SEAT. 11 by the template 'for every input the law returns true; each argument reads behind the call as it read before'; 0 by the template 'total and deterministic' (their statements: YtgejdfhfgphcbaaTotals.lean).
  GIVEN WITH THE SEED: the statements are not yours to turn. If you find one false, say at which input.
  Laid BY PROGRAM, IN A SANDBOX (cutbox-rows.mjs): the forced cells as the released guide's own fill.sh prints them over the translation a44d8849b4f692ba… (all of the seat's roots in one cut). By AI agents, Wed Nov 11 2026. No macro, syntax, notation, axiom, sorry.
-/
import Derived.Test.YtgejdfhfgphcbaaChecked
import GoSem.Claim
import GoSem.ClaimJoined
import GoSem.ClaimMapViews
import Derived.JoinedTies
import Derived.KernelRfl
namespace Go.Proofs.Ytgejdfhfgphcbaa
/- THE CELL 'sum', in the pinned program and in every row, IS THE sha256 OF THE DUMP (.gsa) THAT YtgejdfhfgphcbaaProg.lean LOADS. Nothing in Lean hashes anything: it is a label: what it is worth is what the hold of that sum in a sandbox is worth. -/
noncomputable def Try.pinned : Pinned := { name := "ytgejdfhfgphcbaa", sum := "a44d8849b4f692ba412891061094632eb1f995540a2c62248bf4b78a69da794f", checked := Try.checked }
namespace Rows
def none {H : Type} : Left H := { results := [], args := [] }

/-- 'assayerlaw21.MsgTurned': WHATEVER THE INPUT: true; the input reads as it did. -/
def msgTurnedSpec : ChangeSpec := { name := "msgTurned", fn := fun _ => fun
  | [d1, d2, d3, d4] => { results := [.lit (.bool true)], args := [d1, d2, d3, d4] }
  | _ => none }
def msgTurnedRow : OpenClaim := { program := "ytgejdfhfgphcbaa", sum := "a44d8849b4f692ba412891061094632eb1f995540a2c62248bf4b78a69da794f", func := "assayer/assayerlaw21.MsgTurned", spec := "msgTurned", apart := false }
def MsgTurnedSaid : Prop := msgTurnedRow.holds Try.pinned (OpenSpec.ofChange msgTurnedSpec)

/-- ITS FALSE NEIGHBOUR: 'it returns false'. Refute it at one input. -/
def msgTurnedWrong : ChangeSpec := { name := "msgTurned", fn := fun _ => fun
  | [d1, d2, d3, d4] => { results := [.lit (.bool false)], args := [d1, d2, d3, d4] }
  | _ => none }
def MsgTurnedWrongFalsely : Prop := msgTurnedRow.holds Try.pinned (OpenSpec.ofChange msgTurnedWrong)

/-- 'assayerlaw21.MsgBack': WHATEVER THE INPUT: true; the input reads as it did. -/
def msgBackSpec : ChangeSpec := { name := "msgBack", fn := fun _ => fun
  | [d1, d2, d3, d4] => { results := [.lit (.bool true)], args := [d1, d2, d3, d4] }
  | _ => none }
def msgBackRow : OpenClaim := { program := "ytgejdfhfgphcbaa", sum := "a44d8849b4f692ba412891061094632eb1f995540a2c62248bf4b78a69da794f", func := "assayer/assayerlaw21.MsgBack", spec := "msgBack", apart := false }
def MsgBackSaid : Prop := msgBackRow.holds Try.pinned (OpenSpec.ofChange msgBackSpec)

/-- ITS FALSE NEIGHBOUR: 'it returns false'. Refute it at one input. -/
def msgBackWrong : ChangeSpec := { name := "msgBack", fn := fun _ => fun
  | [d1, d2, d3, d4] => { results := [.lit (.bool false)], args := [d1, d2, d3, d4] }
  | _ => none }
def MsgBackWrongFalsely : Prop := msgBackRow.holds Try.pinned (OpenSpec.ofChange msgBackWrong)

/-- 'assayerlaw21.MsgForms': WHATEVER THE INPUT: true; the input reads as it did. -/
def msgFormsSpec : ChangeSpec := { name := "msgForms", fn := fun _ => fun
  | [] => { results := [.lit (.bool true)], args := [] }
  | _ => none }
def msgFormsRow : OpenClaim := { program := "ytgejdfhfgphcbaa", sum := "a44d8849b4f692ba412891061094632eb1f995540a2c62248bf4b78a69da794f", func := "assayer/assayerlaw21.MsgForms", spec := "msgForms", apart := false }
def MsgFormsSaid : Prop := msgFormsRow.holds Try.pinned (OpenSpec.ofChange msgFormsSpec)

/-- ITS FALSE NEIGHBOUR: 'it returns false'. Refute it at one input. -/
def msgFormsWrong : ChangeSpec := { name := "msgForms", fn := fun _ => fun
  | [] => { results := [.lit (.bool false)], args := [] }
  | _ => none }
def MsgFormsWrongFalsely : Prop := msgFormsRow.holds Try.pinned (OpenSpec.ofChange msgFormsWrong)

/-- 'assayerlaw6.KindAll': WHATEVER THE INPUT: true; the input reads as it did. -/
def kindAllSpec : ChangeSpec := { name := "kindAll", fn := fun _ => fun
  | [d1, d2] => { results := [.lit (.bool true)], args := [d1, d2] }
  | _ => none }
def kindAllRow : OpenClaim := { program := "ytgejdfhfgphcbaa", sum := "a44d8849b4f692ba412891061094632eb1f995540a2c62248bf4b78a69da794f", func := "assayer/assayerlaw6.KindAll", spec := "kindAll", inPlace := ["internal/bytealg.IndexByteString"], unfollowed := true, recurses := true, apart := false }
def KindAllSaid : Prop := kindAllRow.holds Try.pinned (OpenSpec.ofChange kindAllSpec)

/-- ITS FALSE NEIGHBOUR: 'it returns false'. Refute it at one input. -/
def kindAllWrong : ChangeSpec := { name := "kindAll", fn := fun _ => fun
  | [d1, d2] => { results := [.lit (.bool false)], args := [d1, d2] }
  | _ => none }
def KindAllWrongFalsely : Prop := kindAllRow.holds Try.pinned (OpenSpec.ofChange kindAllWrong)

/-- 'assayerlaw6.KindBack': WHATEVER THE INPUT: true; the input reads as it did. -/
def kindBackSpec : ChangeSpec := { name := "kindBack", fn := fun _ => fun
  | [d] => { results := [.lit (.bool true)], args := [d] }
  | _ => none }
def kindBackRow : OpenClaim := { program := "ytgejdfhfgphcbaa", sum := "a44d8849b4f692ba412891061094632eb1f995540a2c62248bf4b78a69da794f", func := "assayer/assayerlaw6.KindBack", spec := "kindBack", inPlace := ["internal/bytealg.IndexByteString"], unfollowed := true, recurses := true, apart := false }
def KindBackSaid : Prop := kindBackRow.holds Try.pinned (OpenSpec.ofChange kindBackSpec)

/-- ITS FALSE NEIGHBOUR: 'it returns false'. Refute it at one input. -/
def kindBackWrong : ChangeSpec := { name := "kindBack", fn := fun _ => fun
  | [d] => { results := [.lit (.bool false)], args := [d] }
  | _ => none }
def KindBackWrongFalsely : Prop := kindBackRow.holds Try.pinned (OpenSpec.ofChange kindBackWrong)

/-- 'assayerlaw6.KindNests': WHATEVER THE INPUT: true; the input reads as it did. -/
def kindNestsSpec : ChangeSpec := { name := "kindNests", fn := fun _ => fun
  | [d] => { results := [.lit (.bool true)], args := [d] }
  | _ => none }
def kindNestsRow : OpenClaim := { program := "ytgejdfhfgphcbaa", sum := "a44d8849b4f692ba412891061094632eb1f995540a2c62248bf4b78a69da794f", func := "assayer/assayerlaw6.KindNests", spec := "kindNests", inPlace := ["internal/bytealg.IndexByteString"], unfollowed := true, recurses := true, apart := false }
def KindNestsSaid : Prop := kindNestsRow.holds Try.pinned (OpenSpec.ofChange kindNestsSpec)

/-- ITS FALSE NEIGHBOUR: 'it returns false'. Refute it at one input. -/
def kindNestsWrong : ChangeSpec := { name := "kindNests", fn := fun _ => fun
  | [d] => { results := [.lit (.bool false)], args := [d] }
  | _ => none }
def KindNestsWrongFalsely : Prop := kindNestsRow.holds Try.pinned (OpenSpec.ofChange kindNestsWrong)

/-- 'assayerlaw6.KindForms': WHATEVER THE INPUT: true; the input reads as it did. -/
def kindFormsSpec : ChangeSpec := { name := "kindForms", fn := fun _ => fun
  | [] => { results := [.lit (.bool true)], args := [] }
  | _ => none }
def kindFormsRow : OpenClaim := { program := "ytgejdfhfgphcbaa", sum := "a44d8849b4f692ba412891061094632eb1f995540a2c62248bf4b78a69da794f", func := "assayer/assayerlaw6.KindForms", spec := "kindForms", inPlace := ["internal/bytealg.IndexByteString"], unfollowed := true, recurses := true, apart := false }
def KindFormsSaid : Prop := kindFormsRow.holds Try.pinned (OpenSpec.ofChange kindFormsSpec)

/-- ITS FALSE NEIGHBOUR: 'it returns false'. Refute it at one input. -/
def kindFormsWrong : ChangeSpec := { name := "kindForms", fn := fun _ => fun
  | [] => { results := [.lit (.bool false)], args := [] }
  | _ => none }
def KindFormsWrongFalsely : Prop := kindFormsRow.holds Try.pinned (OpenSpec.ofChange kindFormsWrong)

/-- 'assayerlaw6.KindNames': WHATEVER THE INPUT: true; the input reads as it did. -/
def kindNamesSpec : ChangeSpec := { name := "kindNames", fn := fun _ => fun
  | [d] => { results := [.lit (.bool true)], args := [d] }
  | _ => none }
def kindNamesRow : OpenClaim := { program := "ytgejdfhfgphcbaa", sum := "a44d8849b4f692ba412891061094632eb1f995540a2c62248bf4b78a69da794f", func := "assayer/assayerlaw6.KindNames", spec := "kindNames", inPlace := ["internal/bytealg.IndexByteString"], unfollowed := true, recurses := true, apart := false }
def KindNamesSaid : Prop := kindNamesRow.holds Try.pinned (OpenSpec.ofChange kindNamesSpec)

/-- ITS FALSE NEIGHBOUR: 'it returns false'. Refute it at one input. -/
def kindNamesWrong : ChangeSpec := { name := "kindNames", fn := fun _ => fun
  | [d] => { results := [.lit (.bool false)], args := [d] }
  | _ => none }
def KindNamesWrongFalsely : Prop := kindNamesRow.holds Try.pinned (OpenSpec.ofChange kindNamesWrong)

/-- 'assayerlaw3.BigAll': WHATEVER THE INPUT: true; the input reads as it did. -/
def bigAllSpec : ChangeSpec := { name := "bigAll", fn := fun _ => fun
  | [d1, d2, d3, d4] => { results := [.lit (.bool true)], args := [d1, d2, d3, d4] }
  | _ => none }
def bigAllRow : OpenClaim := { program := "ytgejdfhfgphcbaa", sum := "a44d8849b4f692ba412891061094632eb1f995540a2c62248bf4b78a69da794f", func := "assayer/assayerlaw3.BigAll", spec := "bigAll", unfollowed := true, recurses := true, apart := false }
def BigAllSaid : Prop := bigAllRow.holds Try.pinned (OpenSpec.ofChange bigAllSpec)

/-- ITS FALSE NEIGHBOUR: 'it returns false'. Refute it at one input. -/
def bigAllWrong : ChangeSpec := { name := "bigAll", fn := fun _ => fun
  | [d1, d2, d3, d4] => { results := [.lit (.bool false)], args := [d1, d2, d3, d4] }
  | _ => none }
def BigAllWrongFalsely : Prop := bigAllRow.holds Try.pinned (OpenSpec.ofChange bigAllWrong)

/-- 'assayerlaw3.BigDivides': WHATEVER THE INPUT: true; the input reads as it did. -/
def bigDividesSpec : ChangeSpec := { name := "bigDivides", fn := fun _ => fun
  | [d1, d2] => { results := [.lit (.bool true)], args := [d1, d2] }
  | _ => none }
def bigDividesRow : OpenClaim := { program := "ytgejdfhfgphcbaa", sum := "a44d8849b4f692ba412891061094632eb1f995540a2c62248bf4b78a69da794f", func := "assayer/assayerlaw3.BigDivides", spec := "bigDivides", apart := false }
def BigDividesSaid : Prop := bigDividesRow.holds Try.pinned (OpenSpec.ofChange bigDividesSpec)

/-- ITS FALSE NEIGHBOUR: 'it returns false'. Refute it at one input. -/
def bigDividesWrong : ChangeSpec := { name := "bigDivides", fn := fun _ => fun
  | [d1, d2] => { results := [.lit (.bool false)], args := [d1, d2] }
  | _ => none }
def BigDividesWrongFalsely : Prop := bigDividesRow.holds Try.pinned (OpenSpec.ofChange bigDividesWrong)

/-- 'assayerlaw3.BigRing': WHATEVER THE INPUT: true; the input reads as it did. -/
def bigRingSpec : ChangeSpec := { name := "bigRing", fn := fun _ => fun
  | [d1, d2, d3] => { results := [.lit (.bool true)], args := [d1, d2, d3] }
  | _ => none }
def bigRingRow : OpenClaim := { program := "ytgejdfhfgphcbaa", sum := "a44d8849b4f692ba412891061094632eb1f995540a2c62248bf4b78a69da794f", func := "assayer/assayerlaw3.BigRing", spec := "bigRing", apart := false }
def BigRingSaid : Prop := bigRingRow.holds Try.pinned (OpenSpec.ofChange bigRingSpec)

/-- ITS FALSE NEIGHBOUR: 'it returns false'. Refute it at one input. -/
def bigRingWrong : ChangeSpec := { name := "bigRing", fn := fun _ => fun
  | [d1, d2, d3] => { results := [.lit (.bool false)], args := [d1, d2, d3] }
  | _ => none }
def BigRingWrongFalsely : Prop := bigRingRow.holds Try.pinned (OpenSpec.ofChange bigRingWrong)

/- THE SECOND FORM. 'bulk': how many values and letters a reading holds, each counted each time it is reached (what is shared counts as often as it is met; a slice's spare places count too). A statement '..UptoSaid' is the law's where the arguments, and the package variables that the reading takes, are together of bulk at most 1048576: NARROWER than '..Said'. Prove '..Said' where nothing that the law and all that it calls make is longer than what came in: it says more and counts as full. Else prove '..UptoSaid'. A law counts once. -/
mutual
def uptoBulk {H : Type} : DataW H → Nat
  | .lit (.string bytes) => bytes.length + 1
  | .lit _ => 1
  | .nil => 1
  | .ptr d => uptoBulk d + 1
  | .slice elems spare => uptoBulkAll elems + uptoBulkAll spare + 1
  | .agg parts => uptoBulkAll parts + 1
  | .iface _ d => uptoBulk d + 1
  | .map entries => uptoBulkEntries entries + 1
  | .held _ => 1
def uptoBulkAll {H : Type} : List (DataW H) → Nat
  | [] => 0
  | d :: r => uptoBulk d + uptoBulkAll r
def uptoBulkEntries {H : Type} : List (Lit × DataW H) → Nat
  | [] => 0
  | x :: r => uptoBulkEntry x + uptoBulkEntries r
def uptoBulkEntry {H : Type} : Lit × DataW H → Nat
  | (.string bytes, d) => bytes.length + uptoBulk d + 1
  | (_, d) => uptoBulk d + 1
 end
def uptoSmall : (H : Type) → List (DataW H) → Bool := fun _ ds => decide (uptoBulkAll ds ≤ 1048576)
def OpenSpec.upto (s : _root_.Go.ChangeSpec) : _root_.Go.OpenSpec := { _root_.Go.OpenSpec.ofChange s with cond := some uptoSmall }

/-- 'assayerlaw21.MsgTurned', WHERE WHAT IT READS IS OF BULK AT MOST 1048576: true; the input reads as it did. -/
def msgTurnedUptoRow : OpenClaim := { program := "ytgejdfhfgphcbaa", sum := "a44d8849b4f692ba412891061094632eb1f995540a2c62248bf4b78a69da794f", func := "assayer/assayerlaw21.MsgTurned", spec := "msgTurned", apart := false, narrowed := true }
def MsgTurnedUptoSaid : Prop := msgTurnedUptoRow.holds Try.pinned (OpenSpec.upto msgTurnedSpec)

/-- 'assayerlaw21.MsgBack', WHERE WHAT IT READS IS OF BULK AT MOST 1048576: true; the input reads as it did. -/
def msgBackUptoRow : OpenClaim := { program := "ytgejdfhfgphcbaa", sum := "a44d8849b4f692ba412891061094632eb1f995540a2c62248bf4b78a69da794f", func := "assayer/assayerlaw21.MsgBack", spec := "msgBack", apart := false, narrowed := true }
def MsgBackUptoSaid : Prop := msgBackUptoRow.holds Try.pinned (OpenSpec.upto msgBackSpec)

/-- 'assayerlaw21.MsgForms', WHERE WHAT IT READS IS OF BULK AT MOST 1048576: true; the input reads as it did. -/
def msgFormsUptoRow : OpenClaim := { program := "ytgejdfhfgphcbaa", sum := "a44d8849b4f692ba412891061094632eb1f995540a2c62248bf4b78a69da794f", func := "assayer/assayerlaw21.MsgForms", spec := "msgForms", apart := false, narrowed := true }
def MsgFormsUptoSaid : Prop := msgFormsUptoRow.holds Try.pinned (OpenSpec.upto msgFormsSpec)

/-- 'assayerlaw6.KindAll', WHERE WHAT IT READS IS OF BULK AT MOST 1048576: true; the input reads as it did. -/
def kindAllUptoRow : OpenClaim := { program := "ytgejdfhfgphcbaa", sum := "a44d8849b4f692ba412891061094632eb1f995540a2c62248bf4b78a69da794f", func := "assayer/assayerlaw6.KindAll", spec := "kindAll", inPlace := ["internal/bytealg.IndexByteString"], unfollowed := true, recurses := true, apart := false, narrowed := true }
def KindAllUptoSaid : Prop := kindAllUptoRow.holds Try.pinned (OpenSpec.upto kindAllSpec)

/-- 'assayerlaw6.KindBack', WHERE WHAT IT READS IS OF BULK AT MOST 1048576: true; the input reads as it did. -/
def kindBackUptoRow : OpenClaim := { program := "ytgejdfhfgphcbaa", sum := "a44d8849b4f692ba412891061094632eb1f995540a2c62248bf4b78a69da794f", func := "assayer/assayerlaw6.KindBack", spec := "kindBack", inPlace := ["internal/bytealg.IndexByteString"], unfollowed := true, recurses := true, apart := false, narrowed := true }
def KindBackUptoSaid : Prop := kindBackUptoRow.holds Try.pinned (OpenSpec.upto kindBackSpec)

/-- 'assayerlaw6.KindNests', WHERE WHAT IT READS IS OF BULK AT MOST 1048576: true; the input reads as it did. -/
def kindNestsUptoRow : OpenClaim := { program := "ytgejdfhfgphcbaa", sum := "a44d8849b4f692ba412891061094632eb1f995540a2c62248bf4b78a69da794f", func := "assayer/assayerlaw6.KindNests", spec := "kindNests", inPlace := ["internal/bytealg.IndexByteString"], unfollowed := true, recurses := true, apart := false, narrowed := true }
def KindNestsUptoSaid : Prop := kindNestsUptoRow.holds Try.pinned (OpenSpec.upto kindNestsSpec)

/-- 'assayerlaw6.KindForms', WHERE WHAT IT READS IS OF BULK AT MOST 1048576: true; the input reads as it did. -/
def kindFormsUptoRow : OpenClaim := { program := "ytgejdfhfgphcbaa", sum := "a44d8849b4f692ba412891061094632eb1f995540a2c62248bf4b78a69da794f", func := "assayer/assayerlaw6.KindForms", spec := "kindForms", inPlace := ["internal/bytealg.IndexByteString"], unfollowed := true, recurses := true, apart := false, narrowed := true }
def KindFormsUptoSaid : Prop := kindFormsUptoRow.holds Try.pinned (OpenSpec.upto kindFormsSpec)

/-- 'assayerlaw6.KindNames', WHERE WHAT IT READS IS OF BULK AT MOST 1048576: true; the input reads as it did. -/
def kindNamesUptoRow : OpenClaim := { program := "ytgejdfhfgphcbaa", sum := "a44d8849b4f692ba412891061094632eb1f995540a2c62248bf4b78a69da794f", func := "assayer/assayerlaw6.KindNames", spec := "kindNames", inPlace := ["internal/bytealg.IndexByteString"], unfollowed := true, recurses := true, apart := false, narrowed := true }
def KindNamesUptoSaid : Prop := kindNamesUptoRow.holds Try.pinned (OpenSpec.upto kindNamesSpec)

/-- 'assayerlaw3.BigAll', WHERE WHAT IT READS IS OF BULK AT MOST 1048576: true; the input reads as it did. -/
def bigAllUptoRow : OpenClaim := { program := "ytgejdfhfgphcbaa", sum := "a44d8849b4f692ba412891061094632eb1f995540a2c62248bf4b78a69da794f", func := "assayer/assayerlaw3.BigAll", spec := "bigAll", unfollowed := true, recurses := true, apart := false, narrowed := true }
def BigAllUptoSaid : Prop := bigAllUptoRow.holds Try.pinned (OpenSpec.upto bigAllSpec)

/-- 'assayerlaw3.BigDivides', WHERE WHAT IT READS IS OF BULK AT MOST 1048576: true; the input reads as it did. -/
def bigDividesUptoRow : OpenClaim := { program := "ytgejdfhfgphcbaa", sum := "a44d8849b4f692ba412891061094632eb1f995540a2c62248bf4b78a69da794f", func := "assayer/assayerlaw3.BigDivides", spec := "bigDivides", apart := false, narrowed := true }
def BigDividesUptoSaid : Prop := bigDividesUptoRow.holds Try.pinned (OpenSpec.upto bigDividesSpec)

/-- 'assayerlaw3.BigRing', WHERE WHAT IT READS IS OF BULK AT MOST 1048576: true; the input reads as it did. -/
def bigRingUptoRow : OpenClaim := { program := "ytgejdfhfgphcbaa", sum := "a44d8849b4f692ba412891061094632eb1f995540a2c62248bf4b78a69da794f", func := "assayer/assayerlaw3.BigRing", spec := "bigRing", apart := false, narrowed := true }
def BigRingUptoSaid : Prop := bigRingUptoRow.holds Try.pinned (OpenSpec.upto bigRingSpec)

end Rows
end Go.Proofs.Ytgejdfhfgphcbaa
