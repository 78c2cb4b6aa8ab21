/-
  DERIVED. GIVEN WITH THE SEED: THE CARDS: each row of YtbngpadibllogaaGreatDoorRows.lean that lists a variable, with what it lists TIED to the program's text (the seventh form; the later family's looks); each row that meets fmt, with fmt's text TOLD by the authors' own Lean function (tested against real Go, not proved from fmt's source: count such statements apart). THE CARD IS WHAT COUNTS. Prove the row's statement (the work); the ties are given (YtbngpadibllogaaGreatDoorTie.lean); close each card by the builder's one call (the guide's Derived/Test/ToyasCard.lean, 'card_holds'). Laid BY PROGRAM, IN A SANDBOX (cutbox-door.mjs). By AI agents, Wed Nov 11 2026. No macro, syntax, notation, axiom, sorry.
-/
import Derived.Test.YtbngpadibllogaaGreatDoorRows
import GoSem.ClaimSeven
namespace Go.Proofs.YtbngpadibllogaaGreatDoor
namespace Rows

/-- THE TIED CARD OF 'assayerlaw10.ScopeWhole'. -/
def scopeWholeCard : Claim7 := { stood := { row := scopeWholeRow, standIns := [], harness := (true, "fdfbab0119387da489ee8ef6359f0b606c889b0fc95f6e1c0b3563239781fec2"), looks := false }, kinds := [], alts := [], laidByText := true, laidKinds := [.data, .pinned], laidTests := true, laidLooks := .later }
def ScopeWholeCardSaid : Prop := Claim7.holds Tryz.pinned (.plain (OpenSpec.ofChange scopeWholeSpec)) scopeWholeCard

/-- THE TIED CARD OF 'assayerlaw10.ScopeForms'. -/
def scopeFormsCard : Claim7 := { stood := { row := scopeFormsRow, standIns := [], harness := (true, "fdfbab0119387da489ee8ef6359f0b606c889b0fc95f6e1c0b3563239781fec2"), looks := false }, kinds := [], alts := [], laidByText := true, laidKinds := [.data, .pinned], laidTests := true, laidLooks := .later }
def ScopeFormsCardSaid : Prop := Claim7.holds Tryz.pinned (.plain (OpenSpec.ofChange scopeFormsSpec)) scopeFormsCard

/-- THE TIED CARD OF 'assayerlaw10.ScopeTwices'. -/
def scopeTwicesCard : Claim7 := { stood := { row := scopeTwicesRow, standIns := [], harness := (true, "fdfbab0119387da489ee8ef6359f0b606c889b0fc95f6e1c0b3563239781fec2"), looks := false }, kinds := [], alts := [], laidByText := true, laidKinds := [.data, .pinned], laidTests := true, laidLooks := .later }
def ScopeTwicesCardSaid : Prop := Claim7.holds Tryz.pinned (.plain (OpenSpec.ofChange scopeTwicesSpec)) scopeTwicesCard

/-- THE SECOND FORM's CARD OF 'assayerlaw10.ScopeWhole'. -/
def scopeWholeUptoCard : Claim7 := { stood := { row := scopeWholeUptoRow, standIns := [], harness := (true, "fdfbab0119387da489ee8ef6359f0b606c889b0fc95f6e1c0b3563239781fec2"), looks := false }, kinds := [], alts := [], laidByText := true, laidKinds := [.data, .pinned], laidTests := true, laidLooks := .later }
def ScopeWholeUptoCardSaid : Prop := Claim7.holds Tryz.pinned (.plain (OpenSpec.upto scopeWholeSpec)) scopeWholeUptoCard

/-- THE SECOND FORM's CARD OF 'assayerlaw10.ScopeForms'. -/
def scopeFormsUptoCard : Claim7 := { stood := { row := scopeFormsUptoRow, standIns := [], harness := (true, "fdfbab0119387da489ee8ef6359f0b606c889b0fc95f6e1c0b3563239781fec2"), looks := false }, kinds := [], alts := [], laidByText := true, laidKinds := [.data, .pinned], laidTests := true, laidLooks := .later }
def ScopeFormsUptoCardSaid : Prop := Claim7.holds Tryz.pinned (.plain (OpenSpec.upto scopeFormsSpec)) scopeFormsUptoCard

/-- THE SECOND FORM's CARD OF 'assayerlaw10.ScopeTwices'. -/
def scopeTwicesUptoCard : Claim7 := { stood := { row := scopeTwicesUptoRow, standIns := [], harness := (true, "fdfbab0119387da489ee8ef6359f0b606c889b0fc95f6e1c0b3563239781fec2"), looks := false }, kinds := [], alts := [], laidByText := true, laidKinds := [.data, .pinned], laidTests := true, laidLooks := .later }
def ScopeTwicesUptoCardSaid : Prop := Claim7.holds Tryz.pinned (.plain (OpenSpec.upto scopeTwicesSpec)) scopeTwicesUptoCard
end Rows
end Go.Proofs.YtbngpadibllogaaGreatDoor
