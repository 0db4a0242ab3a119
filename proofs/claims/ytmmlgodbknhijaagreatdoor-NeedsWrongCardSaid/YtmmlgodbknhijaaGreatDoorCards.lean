/-
  DERIVED. GIVEN WITH THE SEED: THE CARDS: each row of YtmmlgodbknhijaaGreatDoorRows.lean that lists a variable, with what it lists TIED to the program's text (the seventh form; the later family's looks); each row that meets fmt, with fmt's text TOLD by the authors' own Lean function (tested against real Go, not proved from fmt's source: count such statements apart). THE CARD IS WHAT COUNTS. Prove the row's statement (the work); the ties are given (YtmmlgodbknhijaaGreatDoorTie.lean); close each card by the builder's one call (the guide's Derived/Test/ToyasCard.lean, 'card_holds'). Laid BY PROGRAM, IN A SANDBOX (cutbox-door.mjs). By AI agents, Wed Nov 11 2026. No macro, syntax, notation, axiom, sorry.
-/
import Derived.Test.YtmmlgodbknhijaaGreatDoorRows
import GoSem.ClaimSeven
namespace Go.Proofs.YtmmlgodbknhijaaGreatDoor
namespace Rows

/-- THE TIED CARD OF 'cutwaterlaw17.DirsKeep'. -/
def dirsKeepCard : Claim7 := { stood := { row := dirsKeepRow, standIns := [], harness := (true, "a326c4826f3ac6b044d1aa8c75f5c9861eb63f25d5d3edab71f080f78c4a0d3f"), looks := true }, kinds := [], alts := [], laidByText := true, laidKinds := [.data, .pinned], laidTests := true, laidLooks := .later }
def DirsKeepCardSaid : Prop := Claim7.holds Tryz.pinned (.plain (OpenSpec.ofChange dirsKeepSpec)) dirsKeepCard

/-- THE TIED CARD OF 'cutwaterlaw24.NeedsWrong'. -/
def needsWrongCard : Claim7 := { stood := { row := needsWrongRow, standIns := [], harness := (true, "a326c4826f3ac6b044d1aa8c75f5c9861eb63f25d5d3edab71f080f78c4a0d3f"), looks := true }, kinds := [], alts := [], laidByText := true, laidKinds := [.data, .handle, .pinned], laidTests := true, laidLooks := .later }
def NeedsWrongCardSaid : Prop := Claim7.holds Tryz.pinned (.plain (OpenSpec.ofChange needsWrongSpec)) needsWrongCard

/-- THE SECOND FORM's CARD OF 'cutwaterlaw17.DirsKeep'. -/
def dirsKeepUptoCard : Claim7 := { stood := { row := dirsKeepUptoRow, standIns := [], harness := (true, "a326c4826f3ac6b044d1aa8c75f5c9861eb63f25d5d3edab71f080f78c4a0d3f"), looks := true }, kinds := [], alts := [], laidByText := true, laidKinds := [.data, .pinned], laidTests := true, laidLooks := .later }
def DirsKeepUptoCardSaid : Prop := Claim7.holds Tryz.pinned (.plain (OpenSpec.upto dirsKeepSpec)) dirsKeepUptoCard

/-- THE SECOND FORM's CARD OF 'cutwaterlaw24.NeedsWrong'. -/
def needsWrongUptoCard : Claim7 := { stood := { row := needsWrongUptoRow, standIns := [], harness := (true, "a326c4826f3ac6b044d1aa8c75f5c9861eb63f25d5d3edab71f080f78c4a0d3f"), looks := true }, kinds := [], alts := [], laidByText := true, laidKinds := [.data, .handle, .pinned], laidTests := true, laidLooks := .later }
def NeedsWrongUptoCardSaid : Prop := Claim7.holds Tryz.pinned (.plain (OpenSpec.upto needsWrongSpec)) needsWrongUptoCard
end Rows
end Go.Proofs.YtmmlgodbknhijaaGreatDoor
