/-
  NARROWER THAN 'FOR EVERY INPUT', by the rows' own cells (each row's printed sentence says how): AliasAll: laid · AliasChain: laid · AliasWhole: laid · AliasForms: laid · AliasKeys: laid.
  DERIVED. THE GIVEN ROWS OF THIS SEAT. 5 by the template 'for every input the law returns true; each argument reads behind the call as it read before'; 0 by the template 'total and deterministic' (their statements: YtkcafoogpbopiaaGreatDoorTotals.lean).
  GIVEN WITH THE SEED: the statements are not yours to turn. If you find one false, say at which input.
  Laid BY PROGRAM, IN A SANDBOX (cutbox-rows.mjs): the forced cells as the released guide's own fill.sh prints them over the translation f41abd0034b5cca1… (all of the seat's roots in one cut). By AI agents, Wed Nov 11 2026. No macro, syntax, notation, axiom, sorry.
-/
import Derived.Test.YtkcafoogpbopiaaGreatDoorChecked
import GoSem.PinnedTables
import GoSem.Claim
import GoSem.ClaimJoined
import GoSem.ClaimMapViews
import Derived.JoinedTies
import Derived.KernelRfl
namespace Go.Proofs.YtkcafoogpbopiaaGreatDoor
/- THE CELL 'sum', in the pinned program and in every row, IS THE sha256 OF THE DUMP (.gsa) THAT YtkcafoogpbopiaaGreatDoorProg.lean LOADS. Nothing in Lean hashes anything: it is a label: what it is worth is what the hold of that sum in a sandbox is worth. -/
noncomputable def Tryz.pinned : Pinned := { name := "ytkcafoogpbopiaagreatdoor", sum := "f41abd0034b5cca1eb9474ae128060975e561058f1e8601840aefd577472a68f", checked := Tryz.checked }
namespace Rows
def none {H : Type} : Left H := { results := [], args := [] }

/- WHAT THE LISTED PACKAGE-LEVEL VARIABLES READ AS WHEN THE CALL BEGINS. Each datum BY PROGRAM (the guide's laid-datum.mjs) off the statement by which the dump's own 'gosem.cut.vars' lays the variable. In a bare row this is a premise. The card (YtkcafoogpbopiaaGreatDoorCards.lean) ties it to the program's text. -/
def laid_unicode_utf8_acceptRanges {H : Type} : DataW H := .agg [.agg [.lit (.int .u8 128), .lit (.int .u8 191)], .agg [.lit (.int .u8 160), .lit (.int .u8 191)], .agg [.lit (.int .u8 128), .lit (.int .u8 159)], .agg [.lit (.int .u8 144), .lit (.int .u8 191)], .agg [.lit (.int .u8 128), .lit (.int .u8 143)], .agg [.lit (.int .u8 0), .lit (.int .u8 0)], .agg [.lit (.int .u8 0), .lit (.int .u8 0)], .agg [.lit (.int .u8 0), .lit (.int .u8 0)], .agg [.lit (.int .u8 0), .lit (.int .u8 0)], .agg [.lit (.int .u8 0), .lit (.int .u8 0)], .agg [.lit (.int .u8 0), .lit (.int .u8 0)], .agg [.lit (.int .u8 0), .lit (.int .u8 0)], .agg [.lit (.int .u8 0), .lit (.int .u8 0)], .agg [.lit (.int .u8 0), .lit (.int .u8 0)], .agg [.lit (.int .u8 0), .lit (.int .u8 0)], .agg [.lit (.int .u8 0), .lit (.int .u8 0)]]
/-- One of Go's own tables, pinned by name: the form's constant. -/
def laid_unicode_utf8_first : DataW Unit := Go.Pinned.utf8First

/-- 'assayerlaw11.AliasAll': WHATEVER THE INPUT: true; the input reads as it did. -/
def aliasAllSpec : ChangeSpec := { name := "aliasAll", fn := fun _ => fun
  | [d1, d2, d3] => { results := [.lit (.bool true)], args := [d1, d2, d3] }
  | _ => none }
def aliasAllRow : OpenClaim := { program := "ytkcafoogpbopiaagreatdoor", sum := "f41abd0034b5cca1eb9474ae128060975e561058f1e8601840aefd577472a68f", func := "assayer/assayerlaw11.AliasAll", spec := "aliasAll", inPlace := ["internal/bytealg.IndexByteString", "internal/bytealg.CountString", "internal/bytealg.IndexString"], unfollowed := true, recurses := true, named := ["unicode/utf8.first", "unicode/utf8.acceptRanges", "internal/bytealg.MaxLen"], plainKeys := false, apart := false, laid := [("unicode/utf8.acceptRanges", laid_unicode_utf8_acceptRanges), ("unicode/utf8.first", laid_unicode_utf8_first)] }
def AliasAllSaid : Prop := aliasAllRow.holds Tryz.pinned (OpenSpec.ofChange aliasAllSpec)

/-- ITS FALSE NEIGHBOUR: 'it returns false'. Refute it at one input. -/
def aliasAllWrong : ChangeSpec := { name := "aliasAll", fn := fun _ => fun
  | [d1, d2, d3] => { results := [.lit (.bool false)], args := [d1, d2, d3] }
  | _ => none }
def AliasAllWrongFalsely : Prop := aliasAllRow.holds Tryz.pinned (OpenSpec.ofChange aliasAllWrong)

/-- 'assayerlaw11.AliasChain': WHATEVER THE INPUT: true; the input reads as it did. -/
def aliasChainSpec : ChangeSpec := { name := "aliasChain", fn := fun _ => fun
  | [d1, d2, d3] => { results := [.lit (.bool true)], args := [d1, d2, d3] }
  | _ => none }
def aliasChainRow : OpenClaim := { program := "ytkcafoogpbopiaagreatdoor", sum := "f41abd0034b5cca1eb9474ae128060975e561058f1e8601840aefd577472a68f", func := "assayer/assayerlaw11.AliasChain", spec := "aliasChain", inPlace := ["internal/bytealg.IndexByteString", "internal/bytealg.CountString", "internal/bytealg.IndexString"], unfollowed := true, recurses := true, named := ["unicode/utf8.first", "unicode/utf8.acceptRanges", "internal/bytealg.MaxLen"], plainKeys := false, apart := false, laid := [("unicode/utf8.acceptRanges", laid_unicode_utf8_acceptRanges), ("unicode/utf8.first", laid_unicode_utf8_first)] }
def AliasChainSaid : Prop := aliasChainRow.holds Tryz.pinned (OpenSpec.ofChange aliasChainSpec)

/-- ITS FALSE NEIGHBOUR: 'it returns false'. Refute it at one input. -/
def aliasChainWrong : ChangeSpec := { name := "aliasChain", fn := fun _ => fun
  | [d1, d2, d3] => { results := [.lit (.bool false)], args := [d1, d2, d3] }
  | _ => none }
def AliasChainWrongFalsely : Prop := aliasChainRow.holds Tryz.pinned (OpenSpec.ofChange aliasChainWrong)

/-- 'assayerlaw11.AliasWhole': WHATEVER THE INPUT: true; the input reads as it did. -/
def aliasWholeSpec : ChangeSpec := { name := "aliasWhole", fn := fun _ => fun
  | [d1, d2] => { results := [.lit (.bool true)], args := [d1, d2] }
  | _ => none }
def aliasWholeRow : OpenClaim := { program := "ytkcafoogpbopiaagreatdoor", sum := "f41abd0034b5cca1eb9474ae128060975e561058f1e8601840aefd577472a68f", func := "assayer/assayerlaw11.AliasWhole", spec := "aliasWhole", inPlace := ["internal/bytealg.IndexByteString", "internal/bytealg.CountString", "internal/bytealg.IndexString"], unfollowed := true, recurses := true, named := ["unicode/utf8.first", "unicode/utf8.acceptRanges", "internal/bytealg.MaxLen"], plainKeys := false, apart := false, laid := [("unicode/utf8.acceptRanges", laid_unicode_utf8_acceptRanges), ("unicode/utf8.first", laid_unicode_utf8_first)] }
def AliasWholeSaid : Prop := aliasWholeRow.holds Tryz.pinned (OpenSpec.ofChange aliasWholeSpec)

/-- ITS FALSE NEIGHBOUR: 'it returns false'. Refute it at one input. -/
def aliasWholeWrong : ChangeSpec := { name := "aliasWhole", fn := fun _ => fun
  | [d1, d2] => { results := [.lit (.bool false)], args := [d1, d2] }
  | _ => none }
def AliasWholeWrongFalsely : Prop := aliasWholeRow.holds Tryz.pinned (OpenSpec.ofChange aliasWholeWrong)

/-- 'assayerlaw11.AliasForms': WHATEVER THE INPUT: true; the input reads as it did. -/
def aliasFormsSpec : ChangeSpec := { name := "aliasForms", fn := fun _ => fun
  | [] => { results := [.lit (.bool true)], args := [] }
  | _ => none }
def aliasFormsRow : OpenClaim := { program := "ytkcafoogpbopiaagreatdoor", sum := "f41abd0034b5cca1eb9474ae128060975e561058f1e8601840aefd577472a68f", func := "assayer/assayerlaw11.AliasForms", spec := "aliasForms", inPlace := ["internal/bytealg.IndexByteString", "internal/bytealg.CountString", "internal/bytealg.IndexString"], unfollowed := true, recurses := true, named := ["unicode/utf8.first", "unicode/utf8.acceptRanges", "internal/bytealg.MaxLen"], plainKeys := false, apart := false, laid := [("unicode/utf8.acceptRanges", laid_unicode_utf8_acceptRanges), ("unicode/utf8.first", laid_unicode_utf8_first)] }
def AliasFormsSaid : Prop := aliasFormsRow.holds Tryz.pinned (OpenSpec.ofChange aliasFormsSpec)

/-- ITS FALSE NEIGHBOUR: 'it returns false'. Refute it at one input. -/
def aliasFormsWrong : ChangeSpec := { name := "aliasForms", fn := fun _ => fun
  | [] => { results := [.lit (.bool false)], args := [] }
  | _ => none }
def AliasFormsWrongFalsely : Prop := aliasFormsRow.holds Tryz.pinned (OpenSpec.ofChange aliasFormsWrong)

/-- 'assayerlaw11.AliasKeys': WHATEVER THE INPUT: true; the input reads as it did. -/
def aliasKeysSpec : ChangeSpec := { name := "aliasKeys", fn := fun _ => fun
  | [d1, d2] => { results := [.lit (.bool true)], args := [d1, d2] }
  | _ => none }
def aliasKeysRow : OpenClaim := { program := "ytkcafoogpbopiaagreatdoor", sum := "f41abd0034b5cca1eb9474ae128060975e561058f1e8601840aefd577472a68f", func := "assayer/assayerlaw11.AliasKeys", spec := "aliasKeys", inPlace := ["internal/bytealg.IndexByteString", "internal/bytealg.CountString", "internal/bytealg.IndexString"], unfollowed := true, recurses := true, named := ["unicode/utf8.first", "unicode/utf8.acceptRanges", "internal/bytealg.MaxLen"], plainKeys := false, apart := false, laid := [("unicode/utf8.acceptRanges", laid_unicode_utf8_acceptRanges), ("unicode/utf8.first", laid_unicode_utf8_first)] }
def AliasKeysSaid : Prop := aliasKeysRow.holds Tryz.pinned (OpenSpec.ofChange aliasKeysSpec)

/-- ITS FALSE NEIGHBOUR: 'it returns false'. Refute it at one input. -/
def aliasKeysWrong : ChangeSpec := { name := "aliasKeys", fn := fun _ => fun
  | [d1, d2] => { results := [.lit (.bool false)], args := [d1, d2] }
  | _ => none }
def AliasKeysWrongFalsely : Prop := aliasKeysRow.holds Tryz.pinned (OpenSpec.ofChange aliasKeysWrong)

/- THE SECOND FORM. 'bulk': how many values and letters a reading holds, each counted each time it is reached (what is shared counts as often as it is met; a slice's spare places count too). A statement '..UptoSaid' is the law's where the arguments, and the package variables that the reading takes, are together of bulk at most 1048576: NARROWER than '..Said'. Prove '..Said' where nothing that the law and all that it calls make is longer than what came in: it says more and counts as full. Else prove '..UptoSaid'. A law counts once. -/
mutual
def uptoBulk {H : Type} : DataW H → Nat
  | .lit (.string bytes) => bytes.length + 1
  | .lit _ => 1
  | .nil => 1
  | .ptr d => uptoBulk d + 1
  | .slice elems spare => uptoBulkAll elems + uptoBulkAll spare + 1
  | .agg parts => uptoBulkAll parts + 1
  | .iface _ d => uptoBulk d + 1
  | .map entries => uptoBulkEntries entries + 1
  | .held _ => 1
def uptoBulkAll {H : Type} : List (DataW H) → Nat
  | [] => 0
  | d :: r => uptoBulk d + uptoBulkAll r
def uptoBulkEntries {H : Type} : List (Lit × DataW H) → Nat
  | [] => 0
  | x :: r => uptoBulkEntry x + uptoBulkEntries r
def uptoBulkEntry {H : Type} : Lit × DataW H → Nat
  | (.string bytes, d) => bytes.length + uptoBulk d + 1
  | (_, d) => uptoBulk d + 1
 end
def uptoSmall : (H : Type) → List (DataW H) → Bool := fun _ ds => decide (uptoBulkAll ds ≤ 1048576)
def OpenSpec.upto (s : _root_.Go.ChangeSpec) : _root_.Go.OpenSpec := { _root_.Go.OpenSpec.ofChange s with cond := some uptoSmall }

/-- 'assayerlaw11.AliasAll', WHERE WHAT IT READS IS OF BULK AT MOST 1048576: true; the input reads as it did. -/
def aliasAllUptoRow : OpenClaim := { program := "ytkcafoogpbopiaagreatdoor", sum := "f41abd0034b5cca1eb9474ae128060975e561058f1e8601840aefd577472a68f", func := "assayer/assayerlaw11.AliasAll", spec := "aliasAll", inPlace := ["internal/bytealg.IndexByteString", "internal/bytealg.CountString", "internal/bytealg.IndexString"], unfollowed := true, recurses := true, named := ["unicode/utf8.first", "unicode/utf8.acceptRanges", "internal/bytealg.MaxLen"], plainKeys := false, apart := false, laid := [("unicode/utf8.acceptRanges", laid_unicode_utf8_acceptRanges), ("unicode/utf8.first", laid_unicode_utf8_first)], narrowed := true }
def AliasAllUptoSaid : Prop := aliasAllUptoRow.holds Tryz.pinned (OpenSpec.upto aliasAllSpec)

/-- 'assayerlaw11.AliasChain', WHERE WHAT IT READS IS OF BULK AT MOST 1048576: true; the input reads as it did. -/
def aliasChainUptoRow : OpenClaim := { program := "ytkcafoogpbopiaagreatdoor", sum := "f41abd0034b5cca1eb9474ae128060975e561058f1e8601840aefd577472a68f", func := "assayer/assayerlaw11.AliasChain", spec := "aliasChain", inPlace := ["internal/bytealg.IndexByteString", "internal/bytealg.CountString", "internal/bytealg.IndexString"], unfollowed := true, recurses := true, named := ["unicode/utf8.first", "unicode/utf8.acceptRanges", "internal/bytealg.MaxLen"], plainKeys := false, apart := false, laid := [("unicode/utf8.acceptRanges", laid_unicode_utf8_acceptRanges), ("unicode/utf8.first", laid_unicode_utf8_first)], narrowed := true }
def AliasChainUptoSaid : Prop := aliasChainUptoRow.holds Tryz.pinned (OpenSpec.upto aliasChainSpec)

/-- 'assayerlaw11.AliasWhole', WHERE WHAT IT READS IS OF BULK AT MOST 1048576: true; the input reads as it did. -/
def aliasWholeUptoRow : OpenClaim := { program := "ytkcafoogpbopiaagreatdoor", sum := "f41abd0034b5cca1eb9474ae128060975e561058f1e8601840aefd577472a68f", func := "assayer/assayerlaw11.AliasWhole", spec := "aliasWhole", inPlace := ["internal/bytealg.IndexByteString", "internal/bytealg.CountString", "internal/bytealg.IndexString"], unfollowed := true, recurses := true, named := ["unicode/utf8.first", "unicode/utf8.acceptRanges", "internal/bytealg.MaxLen"], plainKeys := false, apart := false, laid := [("unicode/utf8.acceptRanges", laid_unicode_utf8_acceptRanges), ("unicode/utf8.first", laid_unicode_utf8_first)], narrowed := true }
def AliasWholeUptoSaid : Prop := aliasWholeUptoRow.holds Tryz.pinned (OpenSpec.upto aliasWholeSpec)

/-- 'assayerlaw11.AliasForms', WHERE WHAT IT READS IS OF BULK AT MOST 1048576: true; the input reads as it did. -/
def aliasFormsUptoRow : OpenClaim := { program := "ytkcafoogpbopiaagreatdoor", sum := "f41abd0034b5cca1eb9474ae128060975e561058f1e8601840aefd577472a68f", func := "assayer/assayerlaw11.AliasForms", spec := "aliasForms", inPlace := ["internal/bytealg.IndexByteString", "internal/bytealg.CountString", "internal/bytealg.IndexString"], unfollowed := true, recurses := true, named := ["unicode/utf8.first", "unicode/utf8.acceptRanges", "internal/bytealg.MaxLen"], plainKeys := false, apart := false, laid := [("unicode/utf8.acceptRanges", laid_unicode_utf8_acceptRanges), ("unicode/utf8.first", laid_unicode_utf8_first)], narrowed := true }
def AliasFormsUptoSaid : Prop := aliasFormsUptoRow.holds Tryz.pinned (OpenSpec.upto aliasFormsSpec)

/-- 'assayerlaw11.AliasKeys', WHERE WHAT IT READS IS OF BULK AT MOST 1048576: true; the input reads as it did. -/
def aliasKeysUptoRow : OpenClaim := { program := "ytkcafoogpbopiaagreatdoor", sum := "f41abd0034b5cca1eb9474ae128060975e561058f1e8601840aefd577472a68f", func := "assayer/assayerlaw11.AliasKeys", spec := "aliasKeys", inPlace := ["internal/bytealg.IndexByteString", "internal/bytealg.CountString", "internal/bytealg.IndexString"], unfollowed := true, recurses := true, named := ["unicode/utf8.first", "unicode/utf8.acceptRanges", "internal/bytealg.MaxLen"], plainKeys := false, apart := false, laid := [("unicode/utf8.acceptRanges", laid_unicode_utf8_acceptRanges), ("unicode/utf8.first", laid_unicode_utf8_first)], narrowed := true }
def AliasKeysUptoSaid : Prop := aliasKeysUptoRow.holds Tryz.pinned (OpenSpec.upto aliasKeysSpec)

end Rows
end Go.Proofs.YtkcafoogpbopiaaGreatDoor
