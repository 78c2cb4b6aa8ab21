/-
  No cell of these rows narrows 'for every input' (looked for: loops, veiled, ifaces, maps, wideKeys, modest, calm, conditions, laid).
  DERIVED. THE GIVEN ROWS OF THIS SEAT. 3 by the template 'for every input the law returns true; each argument reads behind the call as it read before'; 0 by the template 'total and deterministic' (their statements: YtbngpadibllogaaTotals.lean).
  GIVEN WITH THE SEED: the statements are not yours to turn. If you find one false, say at which input.
  Laid BY PROGRAM, IN A SANDBOX (cutbox-rows.mjs): the forced cells as the released guide's own fill.sh prints them over the translation 2fa8d435406699fd… (all of the seat's roots in one cut). By AI agents, Wed Nov 11 2026. No macro, syntax, notation, axiom, sorry.
-/
import Derived.Test.YtbngpadibllogaaChecked
import GoSem.Claim
import GoSem.ClaimJoined
import GoSem.ClaimMapViews
import Derived.JoinedTies
import Derived.KernelRfl
namespace Go.Proofs.Ytbngpadibllogaa
/- THE CELL 'sum', in the pinned program and in every row, IS THE sha256 OF THE DUMP (.gsa) THAT YtbngpadibllogaaProg.lean LOADS. Nothing in Lean hashes anything: it is a label: what it is worth is what the hold of that sum in a sandbox is worth. -/
noncomputable def Try.pinned : Pinned := { name := "ytbngpadibllogaa", sum := "2fa8d435406699fd2ced5c4df8fa348a3c6e96b3abe2f7fbd958ea43c5df6f90", checked := Try.checked }
namespace Rows
def none {H : Type} : Left H := { results := [], args := [] }

/-- 'assayerlaw3.BigSmall': WHATEVER THE INPUT: true; the input reads as it did. -/
def bigSmallSpec : ChangeSpec := { name := "bigSmall", fn := fun _ => fun
  | [d1, d2, d3] => { results := [.lit (.bool true)], args := [d1, d2, d3] }
  | _ => none }
def bigSmallRow : OpenClaim := { program := "ytbngpadibllogaa", sum := "2fa8d435406699fd2ced5c4df8fa348a3c6e96b3abe2f7fbd958ea43c5df6f90", func := "assayer/assayerlaw3.BigSmall", spec := "bigSmall", apart := false }
def BigSmallSaid : Prop := bigSmallRow.holds Try.pinned (OpenSpec.ofChange bigSmallSpec)

/-- ITS FALSE NEIGHBOUR: 'it returns false'. Refute it at one input. -/
def bigSmallWrong : ChangeSpec := { name := "bigSmall", fn := fun _ => fun
  | [d1, d2, d3] => { results := [.lit (.bool false)], args := [d1, d2, d3] }
  | _ => none }
def BigSmallWrongFalsely : Prop := bigSmallRow.holds Try.pinned (OpenSpec.ofChange bigSmallWrong)

/-- 'assayerlaw3.BigTens': WHATEVER THE INPUT: true; the input reads as it did. -/
def bigTensSpec : ChangeSpec := { name := "bigTens", fn := fun _ => fun
  | [d] => { results := [.lit (.bool true)], args := [d] }
  | _ => none }
def bigTensRow : OpenClaim := { program := "ytbngpadibllogaa", sum := "2fa8d435406699fd2ced5c4df8fa348a3c6e96b3abe2f7fbd958ea43c5df6f90", func := "assayer/assayerlaw3.BigTens", spec := "bigTens", apart := false }
def BigTensSaid : Prop := bigTensRow.holds Try.pinned (OpenSpec.ofChange bigTensSpec)

/-- ITS FALSE NEIGHBOUR: 'it returns false'. Refute it at one input. -/
def bigTensWrong : ChangeSpec := { name := "bigTens", fn := fun _ => fun
  | [d] => { results := [.lit (.bool false)], args := [d] }
  | _ => none }
def BigTensWrongFalsely : Prop := bigTensRow.holds Try.pinned (OpenSpec.ofChange bigTensWrong)

/-- 'assayerlaw3.BigShifts': WHATEVER THE INPUT: true; the input reads as it did. -/
def bigShiftsSpec : ChangeSpec := { name := "bigShifts", fn := fun _ => fun
  | [d1, d2] => { results := [.lit (.bool true)], args := [d1, d2] }
  | _ => none }
def bigShiftsRow : OpenClaim := { program := "ytbngpadibllogaa", sum := "2fa8d435406699fd2ced5c4df8fa348a3c6e96b3abe2f7fbd958ea43c5df6f90", func := "assayer/assayerlaw3.BigShifts", spec := "bigShifts", apart := false }
def BigShiftsSaid : Prop := bigShiftsRow.holds Try.pinned (OpenSpec.ofChange bigShiftsSpec)

/-- ITS FALSE NEIGHBOUR: 'it returns false'. Refute it at one input. -/
def bigShiftsWrong : ChangeSpec := { name := "bigShifts", fn := fun _ => fun
  | [d1, d2] => { results := [.lit (.bool false)], args := [d1, d2] }
  | _ => none }
def BigShiftsWrongFalsely : Prop := bigShiftsRow.holds Try.pinned (OpenSpec.ofChange bigShiftsWrong)

/- THE SECOND FORM. 'bulk': how many values and letters a reading holds, each counted each time it is reached (what is shared counts as often as it is met; a slice's spare places count too). A statement '..UptoSaid' is the law's where the arguments, and the package variables that the reading takes, are together of bulk at most 1048576: NARROWER than '..Said'. Prove '..Said' where nothing that the law and all that it calls make is longer than what came in: it says more and counts as full. Else prove '..UptoSaid'. A law counts once. -/
mutual
def uptoBulk {H : Type} : DataW H → Nat
  | .lit (.string bytes) => bytes.length + 1
  | .lit _ => 1
  | .nil => 1
  | .ptr d => uptoBulk d + 1
  | .slice elems spare => uptoBulkAll elems + uptoBulkAll spare + 1
  | .agg parts => uptoBulkAll parts + 1
  | .iface _ d => uptoBulk d + 1
  | .map entries => uptoBulkEntries entries + 1
  | .held _ => 1
def uptoBulkAll {H : Type} : List (DataW H) → Nat
  | [] => 0
  | d :: r => uptoBulk d + uptoBulkAll r
def uptoBulkEntries {H : Type} : List (Lit × DataW H) → Nat
  | [] => 0
  | x :: r => uptoBulkEntry x + uptoBulkEntries r
def uptoBulkEntry {H : Type} : Lit × DataW H → Nat
  | (.string bytes, d) => bytes.length + uptoBulk d + 1
  | (_, d) => uptoBulk d + 1
 end
def uptoSmall : (H : Type) → List (DataW H) → Bool := fun _ ds => decide (uptoBulkAll ds ≤ 1048576)
def OpenSpec.upto (s : _root_.Go.ChangeSpec) : _root_.Go.OpenSpec := { _root_.Go.OpenSpec.ofChange s with cond := some uptoSmall }

/-- 'assayerlaw3.BigSmall', WHERE WHAT IT READS IS OF BULK AT MOST 1048576: true; the input reads as it did. -/
def bigSmallUptoRow : OpenClaim := { program := "ytbngpadibllogaa", sum := "2fa8d435406699fd2ced5c4df8fa348a3c6e96b3abe2f7fbd958ea43c5df6f90", func := "assayer/assayerlaw3.BigSmall", spec := "bigSmall", apart := false, narrowed := true }
def BigSmallUptoSaid : Prop := bigSmallUptoRow.holds Try.pinned (OpenSpec.upto bigSmallSpec)

/-- 'assayerlaw3.BigTens', WHERE WHAT IT READS IS OF BULK AT MOST 1048576: true; the input reads as it did. -/
def bigTensUptoRow : OpenClaim := { program := "ytbngpadibllogaa", sum := "2fa8d435406699fd2ced5c4df8fa348a3c6e96b3abe2f7fbd958ea43c5df6f90", func := "assayer/assayerlaw3.BigTens", spec := "bigTens", apart := false, narrowed := true }
def BigTensUptoSaid : Prop := bigTensUptoRow.holds Try.pinned (OpenSpec.upto bigTensSpec)

/-- 'assayerlaw3.BigShifts', WHERE WHAT IT READS IS OF BULK AT MOST 1048576: true; the input reads as it did. -/
def bigShiftsUptoRow : OpenClaim := { program := "ytbngpadibllogaa", sum := "2fa8d435406699fd2ced5c4df8fa348a3c6e96b3abe2f7fbd958ea43c5df6f90", func := "assayer/assayerlaw3.BigShifts", spec := "bigShifts", apart := false, narrowed := true }
def BigShiftsUptoSaid : Prop := bigShiftsUptoRow.holds Try.pinned (OpenSpec.upto bigShiftsSpec)

end Rows
end Go.Proofs.Ytbngpadibllogaa
