/-
  DERIVED. GIVEN WITH THE SEED: THE CARDS: each row of YtkcafoogpbopiaaGreatDoorRows.lean that lists a variable, with what it lists TIED to the program's text (the seventh form; the later family's looks); each row that meets fmt, with fmt's text TOLD by the authors' own Lean function (tested against real Go, not proved from fmt's source: count such statements apart). THE CARD IS WHAT COUNTS. Prove the row's statement (the work); the ties are given (YtkcafoogpbopiaaGreatDoorTie.lean); close each card by the builder's one call (the guide's Derived/Test/ToyasCard.lean, 'card_holds'). Laid BY PROGRAM, IN A SANDBOX (cutbox-door.mjs). By AI agents, Wed Nov 11 2026. No macro, syntax, notation, axiom, sorry.
-/
import Derived.Test.YtkcafoogpbopiaaGreatDoorRows
import GoSem.ClaimSeven
namespace Go.Proofs.YtkcafoogpbopiaaGreatDoor
namespace Rows

/-- THE TIED CARD OF 'assayerlaw11.AliasAll'. -/
def aliasAllCard : Claim7 := { stood := { row := aliasAllRow, standIns := [], harness := (true, "bfcfcf18f714e96dfe4ab860f316e2c4e62ebf460cff80029315d109eaa05d95"), looks := false }, kinds := [], alts := [], laidByText := true, laidKinds := [.data, .pinned], laidTests := true, laidLooks := .later }
def AliasAllCardSaid : Prop := Claim7.holds Tryz.pinned (.plain (OpenSpec.ofChange aliasAllSpec)) aliasAllCard

/-- THE TIED CARD OF 'assayerlaw11.AliasChain'. -/
def aliasChainCard : Claim7 := { stood := { row := aliasChainRow, standIns := [], harness := (true, "bfcfcf18f714e96dfe4ab860f316e2c4e62ebf460cff80029315d109eaa05d95"), looks := false }, kinds := [], alts := [], laidByText := true, laidKinds := [.data, .pinned], laidTests := true, laidLooks := .later }
def AliasChainCardSaid : Prop := Claim7.holds Tryz.pinned (.plain (OpenSpec.ofChange aliasChainSpec)) aliasChainCard

/-- THE TIED CARD OF 'assayerlaw11.AliasWhole'. -/
def aliasWholeCard : Claim7 := { stood := { row := aliasWholeRow, standIns := [], harness := (true, "bfcfcf18f714e96dfe4ab860f316e2c4e62ebf460cff80029315d109eaa05d95"), looks := false }, kinds := [], alts := [], laidByText := true, laidKinds := [.data, .pinned], laidTests := true, laidLooks := .later }
def AliasWholeCardSaid : Prop := Claim7.holds Tryz.pinned (.plain (OpenSpec.ofChange aliasWholeSpec)) aliasWholeCard

/-- THE TIED CARD OF 'assayerlaw11.AliasForms'. -/
def aliasFormsCard : Claim7 := { stood := { row := aliasFormsRow, standIns := [], harness := (true, "bfcfcf18f714e96dfe4ab860f316e2c4e62ebf460cff80029315d109eaa05d95"), looks := false }, kinds := [], alts := [], laidByText := true, laidKinds := [.data, .pinned], laidTests := true, laidLooks := .later }
def AliasFormsCardSaid : Prop := Claim7.holds Tryz.pinned (.plain (OpenSpec.ofChange aliasFormsSpec)) aliasFormsCard

/-- THE TIED CARD OF 'assayerlaw11.AliasKeys'. -/
def aliasKeysCard : Claim7 := { stood := { row := aliasKeysRow, standIns := [], harness := (true, "bfcfcf18f714e96dfe4ab860f316e2c4e62ebf460cff80029315d109eaa05d95"), looks := false }, kinds := [], alts := [], laidByText := true, laidKinds := [.data, .pinned], laidTests := true, laidLooks := .later }
def AliasKeysCardSaid : Prop := Claim7.holds Tryz.pinned (.plain (OpenSpec.ofChange aliasKeysSpec)) aliasKeysCard

/-- THE SECOND FORM's CARD OF 'assayerlaw11.AliasAll'. -/
def aliasAllUptoCard : Claim7 := { stood := { row := aliasAllUptoRow, standIns := [], harness := (true, "bfcfcf18f714e96dfe4ab860f316e2c4e62ebf460cff80029315d109eaa05d95"), looks := false }, kinds := [], alts := [], laidByText := true, laidKinds := [.data, .pinned], laidTests := true, laidLooks := .later }
def AliasAllUptoCardSaid : Prop := Claim7.holds Tryz.pinned (.plain (OpenSpec.upto aliasAllSpec)) aliasAllUptoCard

/-- THE SECOND FORM's CARD OF 'assayerlaw11.AliasChain'. -/
def aliasChainUptoCard : Claim7 := { stood := { row := aliasChainUptoRow, standIns := [], harness := (true, "bfcfcf18f714e96dfe4ab860f316e2c4e62ebf460cff80029315d109eaa05d95"), looks := false }, kinds := [], alts := [], laidByText := true, laidKinds := [.data, .pinned], laidTests := true, laidLooks := .later }
def AliasChainUptoCardSaid : Prop := Claim7.holds Tryz.pinned (.plain (OpenSpec.upto aliasChainSpec)) aliasChainUptoCard

/-- THE SECOND FORM's CARD OF 'assayerlaw11.AliasWhole'. -/
def aliasWholeUptoCard : Claim7 := { stood := { row := aliasWholeUptoRow, standIns := [], harness := (true, "bfcfcf18f714e96dfe4ab860f316e2c4e62ebf460cff80029315d109eaa05d95"), looks := false }, kinds := [], alts := [], laidByText := true, laidKinds := [.data, .pinned], laidTests := true, laidLooks := .later }
def AliasWholeUptoCardSaid : Prop := Claim7.holds Tryz.pinned (.plain (OpenSpec.upto aliasWholeSpec)) aliasWholeUptoCard

/-- THE SECOND FORM's CARD OF 'assayerlaw11.AliasForms'. -/
def aliasFormsUptoCard : Claim7 := { stood := { row := aliasFormsUptoRow, standIns := [], harness := (true, "bfcfcf18f714e96dfe4ab860f316e2c4e62ebf460cff80029315d109eaa05d95"), looks := false }, kinds := [], alts := [], laidByText := true, laidKinds := [.data, .pinned], laidTests := true, laidLooks := .later }
def AliasFormsUptoCardSaid : Prop := Claim7.holds Tryz.pinned (.plain (OpenSpec.upto aliasFormsSpec)) aliasFormsUptoCard

/-- THE SECOND FORM's CARD OF 'assayerlaw11.AliasKeys'. -/
def aliasKeysUptoCard : Claim7 := { stood := { row := aliasKeysUptoRow, standIns := [], harness := (true, "bfcfcf18f714e96dfe4ab860f316e2c4e62ebf460cff80029315d109eaa05d95"), looks := false }, kinds := [], alts := [], laidByText := true, laidKinds := [.data, .pinned], laidTests := true, laidLooks := .later }
def AliasKeysUptoCardSaid : Prop := Claim7.holds Tryz.pinned (.plain (OpenSpec.upto aliasKeysSpec)) aliasKeysUptoCard
end Rows
end Go.Proofs.YtkcafoogpbopiaaGreatDoor
