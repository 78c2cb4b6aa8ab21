/-
  No cell of these rows narrows 'for every input' (looked for: loops, veiled, ifaces, maps, wideKeys, modest, calm, conditions, laid).
  DERIVED. THE GIVEN ROWS OF THIS SEAT. 11 by the template 'for every input the law returns true; each argument reads behind the call as it read before'; 0 by the template 'total and deterministic' (their statements: YthclmjelknibhaaTotals.lean).
  GIVEN WITH THE SEED: the statements are not yours to turn. If you find one false, say at which input.
  Laid BY PROGRAM, IN A SANDBOX (cutbox-rows.mjs): the forced cells as the released guide's own fill.sh prints them over the translation c4e67181571119fc… (all of the seat's roots in one cut). By AI agents, Wed Nov 11 2026. No macro, syntax, notation, axiom, sorry.
-/
import Derived.Test.YthclmjelknibhaaChecked
import GoSem.Claim
import GoSem.ClaimJoined
import GoSem.ClaimMapViews
import Derived.JoinedTies
import Derived.KernelRfl
namespace Go.Proofs.Ythclmjelknibhaa
/- THE CELL 'sum', in the pinned program and in every row, IS THE sha256 OF THE DUMP (.gsa) THAT YthclmjelknibhaaProg.lean LOADS. Nothing in Lean hashes anything: it is a label: what it is worth is what the hold of that sum in a sandbox is worth. -/
noncomputable def Try.pinned : Pinned := { name := "ythclmjelknibhaa", sum := "c4e67181571119fc0a871595d2fc49dd6bf0217565629e4d6e5f264201cc9586", checked := Try.checked }
namespace Rows
def none {H : Type} : Left H := { results := [], args := [] }

/-- 'assayerlaw27.DiskArms': WHATEVER THE INPUT: true; the input reads as it did. -/
def diskArmsSpec : ChangeSpec := { name := "diskArms", fn := fun _ => fun
  | [d1, d2] => { results := [.lit (.bool true)], args := [d1, d2] }
  | _ => none }
def diskArmsRow : OpenClaim := { program := "ythclmjelknibhaa", sum := "c4e67181571119fc0a871595d2fc49dd6bf0217565629e4d6e5f264201cc9586", func := "assayer/assayerlaw27.DiskArms", spec := "diskArms", unfollowed := true, recurses := true, apart := false }
def DiskArmsSaid : Prop := diskArmsRow.holds Try.pinned (OpenSpec.ofChange diskArmsSpec)

/-- ITS FALSE NEIGHBOUR: 'it returns false'. Refute it at one input. -/
def diskArmsWrong : ChangeSpec := { name := "diskArms", fn := fun _ => fun
  | [d1, d2] => { results := [.lit (.bool false)], args := [d1, d2] }
  | _ => none }
def DiskArmsWrongFalsely : Prop := diskArmsRow.holds Try.pinned (OpenSpec.ofChange diskArmsWrong)

/-- 'assayerlaw27.DiskLasts': WHATEVER THE INPUT: true; the input reads as it did. -/
def diskLastsSpec : ChangeSpec := { name := "diskLasts", fn := fun _ => fun
  | [d1, d2, d3, d4] => { results := [.lit (.bool true)], args := [d1, d2, d3, d4] }
  | _ => none }
def diskLastsRow : OpenClaim := { program := "ythclmjelknibhaa", sum := "c4e67181571119fc0a871595d2fc49dd6bf0217565629e4d6e5f264201cc9586", func := "assayer/assayerlaw27.DiskLasts", spec := "diskLasts", unfollowed := true, recurses := true, apart := false }
def DiskLastsSaid : Prop := diskLastsRow.holds Try.pinned (OpenSpec.ofChange diskLastsSpec)

/-- ITS FALSE NEIGHBOUR: 'it returns false'. Refute it at one input. -/
def diskLastsWrong : ChangeSpec := { name := "diskLasts", fn := fun _ => fun
  | [d1, d2, d3, d4] => { results := [.lit (.bool false)], args := [d1, d2, d3, d4] }
  | _ => none }
def DiskLastsWrongFalsely : Prop := diskLastsRow.holds Try.pinned (OpenSpec.ofChange diskLastsWrong)

/-- 'assayerlaw27.DiskMoves': WHATEVER THE INPUT: true; the input reads as it did. -/
def diskMovesSpec : ChangeSpec := { name := "diskMoves", fn := fun _ => fun
  | [d1, d2, d3, d4] => { results := [.lit (.bool true)], args := [d1, d2, d3, d4] }
  | _ => none }
def diskMovesRow : OpenClaim := { program := "ythclmjelknibhaa", sum := "c4e67181571119fc0a871595d2fc49dd6bf0217565629e4d6e5f264201cc9586", func := "assayer/assayerlaw27.DiskMoves", spec := "diskMoves", unfollowed := true, recurses := true, apart := false }
def DiskMovesSaid : Prop := diskMovesRow.holds Try.pinned (OpenSpec.ofChange diskMovesSpec)

/-- ITS FALSE NEIGHBOUR: 'it returns false'. Refute it at one input. -/
def diskMovesWrong : ChangeSpec := { name := "diskMoves", fn := fun _ => fun
  | [d1, d2, d3, d4] => { results := [.lit (.bool false)], args := [d1, d2, d3, d4] }
  | _ => none }
def DiskMovesWrongFalsely : Prop := diskMovesRow.holds Try.pinned (OpenSpec.ofChange diskMovesWrong)

/-- 'assayerlaw27.DiskFull': WHATEVER THE INPUT: true; the input reads as it did. -/
def diskFullSpec : ChangeSpec := { name := "diskFull", fn := fun _ => fun
  | [d1, d2] => { results := [.lit (.bool true)], args := [d1, d2] }
  | _ => none }
def diskFullRow : OpenClaim := { program := "ythclmjelknibhaa", sum := "c4e67181571119fc0a871595d2fc49dd6bf0217565629e4d6e5f264201cc9586", func := "assayer/assayerlaw27.DiskFull", spec := "diskFull", inPlace := ["maps.clone"], unfollowed := true, recurses := true, apart := false }
def DiskFullSaid : Prop := diskFullRow.holds Try.pinned (OpenSpec.ofChange diskFullSpec)

/-- ITS FALSE NEIGHBOUR: 'it returns false'. Refute it at one input. -/
def diskFullWrong : ChangeSpec := { name := "diskFull", fn := fun _ => fun
  | [d1, d2] => { results := [.lit (.bool false)], args := [d1, d2] }
  | _ => none }
def DiskFullWrongFalsely : Prop := diskFullRow.holds Try.pinned (OpenSpec.ofChange diskFullWrong)

/-- 'assayerlaw27.DiskAll': WHATEVER THE INPUT: true; the input reads as it did. -/
def diskAllSpec : ChangeSpec := { name := "diskAll", fn := fun _ => fun
  | [d1, d2] => { results := [.lit (.bool true)], args := [d1, d2] }
  | _ => none }
def diskAllRow : OpenClaim := { program := "ythclmjelknibhaa", sum := "c4e67181571119fc0a871595d2fc49dd6bf0217565629e4d6e5f264201cc9586", func := "assayer/assayerlaw27.DiskAll", spec := "diskAll", inPlace := ["maps.clone"], unfollowed := true, recurses := true, apart := false }
def DiskAllSaid : Prop := diskAllRow.holds Try.pinned (OpenSpec.ofChange diskAllSpec)

/-- ITS FALSE NEIGHBOUR: 'it returns false'. Refute it at one input. -/
def diskAllWrong : ChangeSpec := { name := "diskAll", fn := fun _ => fun
  | [d1, d2] => { results := [.lit (.bool false)], args := [d1, d2] }
  | _ => none }
def DiskAllWrongFalsely : Prop := diskAllRow.holds Try.pinned (OpenSpec.ofChange diskAllWrong)

/-- 'assayerlaw28.LogScans': WHATEVER THE INPUT: true; the input reads as it did. -/
def logScansSpec : ChangeSpec := { name := "logScans", fn := fun _ => fun
  | [d1, d2, d3, d4] => { results := [.lit (.bool true)], args := [d1, d2, d3, d4] }
  | _ => none }
def logScansRow : OpenClaim := { program := "ythclmjelknibhaa", sum := "c4e67181571119fc0a871595d2fc49dd6bf0217565629e4d6e5f264201cc9586", func := "assayer/assayerlaw28.LogScans", spec := "logScans", unfollowed := true, recurses := true, apart := false }
def LogScansSaid : Prop := logScansRow.holds Try.pinned (OpenSpec.ofChange logScansSpec)

/-- ITS FALSE NEIGHBOUR: 'it returns false'. Refute it at one input. -/
def logScansWrong : ChangeSpec := { name := "logScans", fn := fun _ => fun
  | [d1, d2, d3, d4] => { results := [.lit (.bool false)], args := [d1, d2, d3, d4] }
  | _ => none }
def LogScansWrongFalsely : Prop := logScansRow.holds Try.pinned (OpenSpec.ofChange logScansWrong)

/-- 'assayerlaw28.LogMost': WHATEVER THE INPUT: true; the input reads as it did. -/
def logMostSpec : ChangeSpec := { name := "logMost", fn := fun _ => fun
  | [d1, d2] => { results := [.lit (.bool true)], args := [d1, d2] }
  | _ => none }
def logMostRow : OpenClaim := { program := "ythclmjelknibhaa", sum := "c4e67181571119fc0a871595d2fc49dd6bf0217565629e4d6e5f264201cc9586", func := "assayer/assayerlaw28.LogMost", spec := "logMost", unfollowed := true, recurses := true, apart := false }
def LogMostSaid : Prop := logMostRow.holds Try.pinned (OpenSpec.ofChange logMostSpec)

/-- ITS FALSE NEIGHBOUR: 'it returns false'. Refute it at one input. -/
def logMostWrong : ChangeSpec := { name := "logMost", fn := fun _ => fun
  | [d1, d2] => { results := [.lit (.bool false)], args := [d1, d2] }
  | _ => none }
def LogMostWrongFalsely : Prop := logMostRow.holds Try.pinned (OpenSpec.ofChange logMostWrong)

/-- 'assayerlaw28.LogOrder': WHATEVER THE INPUT: true; the input reads as it did. -/
def logOrderSpec : ChangeSpec := { name := "logOrder", fn := fun _ => fun
  | [d1, d2] => { results := [.lit (.bool true)], args := [d1, d2] }
  | _ => none }
def logOrderRow : OpenClaim := { program := "ythclmjelknibhaa", sum := "c4e67181571119fc0a871595d2fc49dd6bf0217565629e4d6e5f264201cc9586", func := "assayer/assayerlaw28.LogOrder", spec := "logOrder", unfollowed := true, recurses := true, apart := false }
def LogOrderSaid : Prop := logOrderRow.holds Try.pinned (OpenSpec.ofChange logOrderSpec)

/-- ITS FALSE NEIGHBOUR: 'it returns false'. Refute it at one input. -/
def logOrderWrong : ChangeSpec := { name := "logOrder", fn := fun _ => fun
  | [d1, d2] => { results := [.lit (.bool false)], args := [d1, d2] }
  | _ => none }
def LogOrderWrongFalsely : Prop := logOrderRow.holds Try.pinned (OpenSpec.ofChange logOrderWrong)

/-- 'assayerlaw28.LogAll': WHATEVER THE INPUT: true; the input reads as it did. -/
def logAllSpec : ChangeSpec := { name := "logAll", fn := fun _ => fun
  | [d1, d2] => { results := [.lit (.bool true)], args := [d1, d2] }
  | _ => none }
def logAllRow : OpenClaim := { program := "ythclmjelknibhaa", sum := "c4e67181571119fc0a871595d2fc49dd6bf0217565629e4d6e5f264201cc9586", func := "assayer/assayerlaw28.LogAll", spec := "logAll", unfollowed := true, recurses := true, apart := false }
def LogAllSaid : Prop := logAllRow.holds Try.pinned (OpenSpec.ofChange logAllSpec)

/-- ITS FALSE NEIGHBOUR: 'it returns false'. Refute it at one input. -/
def logAllWrong : ChangeSpec := { name := "logAll", fn := fun _ => fun
  | [d1, d2] => { results := [.lit (.bool false)], args := [d1, d2] }
  | _ => none }
def LogAllWrongFalsely : Prop := logAllRow.holds Try.pinned (OpenSpec.ofChange logAllWrong)

/-- 'assayerlaw28.LogKeeps': WHATEVER THE INPUT: true; the input reads as it did. -/
def logKeepsSpec : ChangeSpec := { name := "logKeeps", fn := fun _ => fun
  | [d1, d2, d3, d4] => { results := [.lit (.bool true)], args := [d1, d2, d3, d4] }
  | _ => none }
def logKeepsRow : OpenClaim := { program := "ythclmjelknibhaa", sum := "c4e67181571119fc0a871595d2fc49dd6bf0217565629e4d6e5f264201cc9586", func := "assayer/assayerlaw28.LogKeeps", spec := "logKeeps", unfollowed := true, recurses := true, apart := false }
def LogKeepsSaid : Prop := logKeepsRow.holds Try.pinned (OpenSpec.ofChange logKeepsSpec)

/-- ITS FALSE NEIGHBOUR: 'it returns false'. Refute it at one input. -/
def logKeepsWrong : ChangeSpec := { name := "logKeeps", fn := fun _ => fun
  | [d1, d2, d3, d4] => { results := [.lit (.bool false)], args := [d1, d2, d3, d4] }
  | _ => none }
def LogKeepsWrongFalsely : Prop := logKeepsRow.holds Try.pinned (OpenSpec.ofChange logKeepsWrong)

/-- 'assayerlaw28.LogPacks': WHATEVER THE INPUT: true; the input reads as it did. -/
def logPacksSpec : ChangeSpec := { name := "logPacks", fn := fun _ => fun
  | [d1, d2, d3, d4] => { results := [.lit (.bool true)], args := [d1, d2, d3, d4] }
  | _ => none }
def logPacksRow : OpenClaim := { program := "ythclmjelknibhaa", sum := "c4e67181571119fc0a871595d2fc49dd6bf0217565629e4d6e5f264201cc9586", func := "assayer/assayerlaw28.LogPacks", spec := "logPacks", unfollowed := true, recurses := true, apart := false }
def LogPacksSaid : Prop := logPacksRow.holds Try.pinned (OpenSpec.ofChange logPacksSpec)

/-- ITS FALSE NEIGHBOUR: 'it returns false'. Refute it at one input. -/
def logPacksWrong : ChangeSpec := { name := "logPacks", fn := fun _ => fun
  | [d1, d2, d3, d4] => { results := [.lit (.bool false)], args := [d1, d2, d3, d4] }
  | _ => none }
def LogPacksWrongFalsely : Prop := logPacksRow.holds Try.pinned (OpenSpec.ofChange logPacksWrong)

/- THE SECOND FORM. 'bulk': how many values and letters a reading holds, each counted each time it is reached (what is shared counts as often as it is met; a slice's spare places count too). A statement '..UptoSaid' is the law's where the arguments, and the package variables that the reading takes, are together of bulk at most 1048576: NARROWER than '..Said'. Prove '..Said' where nothing that the law and all that it calls make is longer than what came in: it says more and counts as full. Else prove '..UptoSaid'. A law counts once. -/
mutual
def uptoBulk {H : Type} : DataW H → Nat
  | .lit (.string bytes) => bytes.length + 1
  | .lit _ => 1
  | .nil => 1
  | .ptr d => uptoBulk d + 1
  | .slice elems spare => uptoBulkAll elems + uptoBulkAll spare + 1
  | .agg parts => uptoBulkAll parts + 1
  | .iface _ d => uptoBulk d + 1
  | .map entries => uptoBulkEntries entries + 1
  | .held _ => 1
def uptoBulkAll {H : Type} : List (DataW H) → Nat
  | [] => 0
  | d :: r => uptoBulk d + uptoBulkAll r
def uptoBulkEntries {H : Type} : List (Lit × DataW H) → Nat
  | [] => 0
  | x :: r => uptoBulkEntry x + uptoBulkEntries r
def uptoBulkEntry {H : Type} : Lit × DataW H → Nat
  | (.string bytes, d) => bytes.length + uptoBulk d + 1
  | (_, d) => uptoBulk d + 1
 end
def uptoSmall : (H : Type) → List (DataW H) → Bool := fun _ ds => decide (uptoBulkAll ds ≤ 1048576)
def OpenSpec.upto (s : _root_.Go.ChangeSpec) : _root_.Go.OpenSpec := { _root_.Go.OpenSpec.ofChange s with cond := some uptoSmall }

/-- 'assayerlaw27.DiskArms', WHERE WHAT IT READS IS OF BULK AT MOST 1048576: true; the input reads as it did. -/
def diskArmsUptoRow : OpenClaim := { program := "ythclmjelknibhaa", sum := "c4e67181571119fc0a871595d2fc49dd6bf0217565629e4d6e5f264201cc9586", func := "assayer/assayerlaw27.DiskArms", spec := "diskArms", unfollowed := true, recurses := true, apart := false, narrowed := true }
def DiskArmsUptoSaid : Prop := diskArmsUptoRow.holds Try.pinned (OpenSpec.upto diskArmsSpec)

/-- 'assayerlaw27.DiskLasts', WHERE WHAT IT READS IS OF BULK AT MOST 1048576: true; the input reads as it did. -/
def diskLastsUptoRow : OpenClaim := { program := "ythclmjelknibhaa", sum := "c4e67181571119fc0a871595d2fc49dd6bf0217565629e4d6e5f264201cc9586", func := "assayer/assayerlaw27.DiskLasts", spec := "diskLasts", unfollowed := true, recurses := true, apart := false, narrowed := true }
def DiskLastsUptoSaid : Prop := diskLastsUptoRow.holds Try.pinned (OpenSpec.upto diskLastsSpec)

/-- 'assayerlaw27.DiskMoves', WHERE WHAT IT READS IS OF BULK AT MOST 1048576: true; the input reads as it did. -/
def diskMovesUptoRow : OpenClaim := { program := "ythclmjelknibhaa", sum := "c4e67181571119fc0a871595d2fc49dd6bf0217565629e4d6e5f264201cc9586", func := "assayer/assayerlaw27.DiskMoves", spec := "diskMoves", unfollowed := true, recurses := true, apart := false, narrowed := true }
def DiskMovesUptoSaid : Prop := diskMovesUptoRow.holds Try.pinned (OpenSpec.upto diskMovesSpec)

/-- 'assayerlaw27.DiskFull', WHERE WHAT IT READS IS OF BULK AT MOST 1048576: true; the input reads as it did. -/
def diskFullUptoRow : OpenClaim := { program := "ythclmjelknibhaa", sum := "c4e67181571119fc0a871595d2fc49dd6bf0217565629e4d6e5f264201cc9586", func := "assayer/assayerlaw27.DiskFull", spec := "diskFull", inPlace := ["maps.clone"], unfollowed := true, recurses := true, apart := false, narrowed := true }
def DiskFullUptoSaid : Prop := diskFullUptoRow.holds Try.pinned (OpenSpec.upto diskFullSpec)

/-- 'assayerlaw27.DiskAll', WHERE WHAT IT READS IS OF BULK AT MOST 1048576: true; the input reads as it did. -/
def diskAllUptoRow : OpenClaim := { program := "ythclmjelknibhaa", sum := "c4e67181571119fc0a871595d2fc49dd6bf0217565629e4d6e5f264201cc9586", func := "assayer/assayerlaw27.DiskAll", spec := "diskAll", inPlace := ["maps.clone"], unfollowed := true, recurses := true, apart := false, narrowed := true }
def DiskAllUptoSaid : Prop := diskAllUptoRow.holds Try.pinned (OpenSpec.upto diskAllSpec)

/-- 'assayerlaw28.LogScans', WHERE WHAT IT READS IS OF BULK AT MOST 1048576: true; the input reads as it did. -/
def logScansUptoRow : OpenClaim := { program := "ythclmjelknibhaa", sum := "c4e67181571119fc0a871595d2fc49dd6bf0217565629e4d6e5f264201cc9586", func := "assayer/assayerlaw28.LogScans", spec := "logScans", unfollowed := true, recurses := true, apart := false, narrowed := true }
def LogScansUptoSaid : Prop := logScansUptoRow.holds Try.pinned (OpenSpec.upto logScansSpec)

/-- 'assayerlaw28.LogMost', WHERE WHAT IT READS IS OF BULK AT MOST 1048576: true; the input reads as it did. -/
def logMostUptoRow : OpenClaim := { program := "ythclmjelknibhaa", sum := "c4e67181571119fc0a871595d2fc49dd6bf0217565629e4d6e5f264201cc9586", func := "assayer/assayerlaw28.LogMost", spec := "logMost", unfollowed := true, recurses := true, apart := false, narrowed := true }
def LogMostUptoSaid : Prop := logMostUptoRow.holds Try.pinned (OpenSpec.upto logMostSpec)

/-- 'assayerlaw28.LogOrder', WHERE WHAT IT READS IS OF BULK AT MOST 1048576: true; the input reads as it did. -/
def logOrderUptoRow : OpenClaim := { program := "ythclmjelknibhaa", sum := "c4e67181571119fc0a871595d2fc49dd6bf0217565629e4d6e5f264201cc9586", func := "assayer/assayerlaw28.LogOrder", spec := "logOrder", unfollowed := true, recurses := true, apart := false, narrowed := true }
def LogOrderUptoSaid : Prop := logOrderUptoRow.holds Try.pinned (OpenSpec.upto logOrderSpec)

/-- 'assayerlaw28.LogAll', WHERE WHAT IT READS IS OF BULK AT MOST 1048576: true; the input reads as it did. -/
def logAllUptoRow : OpenClaim := { program := "ythclmjelknibhaa", sum := "c4e67181571119fc0a871595d2fc49dd6bf0217565629e4d6e5f264201cc9586", func := "assayer/assayerlaw28.LogAll", spec := "logAll", unfollowed := true, recurses := true, apart := false, narrowed := true }
def LogAllUptoSaid : Prop := logAllUptoRow.holds Try.pinned (OpenSpec.upto logAllSpec)

/-- 'assayerlaw28.LogKeeps', WHERE WHAT IT READS IS OF BULK AT MOST 1048576: true; the input reads as it did. -/
def logKeepsUptoRow : OpenClaim := { program := "ythclmjelknibhaa", sum := "c4e67181571119fc0a871595d2fc49dd6bf0217565629e4d6e5f264201cc9586", func := "assayer/assayerlaw28.LogKeeps", spec := "logKeeps", unfollowed := true, recurses := true, apart := false, narrowed := true }
def LogKeepsUptoSaid : Prop := logKeepsUptoRow.holds Try.pinned (OpenSpec.upto logKeepsSpec)

/-- 'assayerlaw28.LogPacks', WHERE WHAT IT READS IS OF BULK AT MOST 1048576: true; the input reads as it did. -/
def logPacksUptoRow : OpenClaim := { program := "ythclmjelknibhaa", sum := "c4e67181571119fc0a871595d2fc49dd6bf0217565629e4d6e5f264201cc9586", func := "assayer/assayerlaw28.LogPacks", spec := "logPacks", unfollowed := true, recurses := true, apart := false, narrowed := true }
def LogPacksUptoSaid : Prop := logPacksUptoRow.holds Try.pinned (OpenSpec.upto logPacksSpec)

end Rows
end Go.Proofs.Ythclmjelknibhaa
