/-
  DERIVED. GIVEN WITH THE SEED: THE CARDS: each row of YtiohfdhmkikckaaGreatDoorRows.lean that lists a variable, with what it lists TIED to the program's text (the seventh form; the later family's looks); each row that meets fmt, with fmt's text TOLD by the authors' own Lean function (tested against real Go, not proved from fmt's source: count such statements apart). THE CARD IS WHAT COUNTS. Prove the row's statement (the work); the ties are given (YtiohfdhmkikckaaGreatDoorTie.lean); close each card by the builder's one call (the guide's Derived/Test/ToyasCard.lean, 'card_holds'). Laid BY PROGRAM, IN A SANDBOX (cutbox-door.mjs). By AI agents, Wed Nov 11 2026. No macro, syntax, notation, axiom, sorry.
-/
import Derived.Test.YtiohfdhmkikckaaGreatDoorRows
import GoSem.ClaimSeven
namespace Go.Proofs.YtiohfdhmkikckaaGreatDoor
namespace Rows

/-- THE TIED CARD OF 'hermitagelaw13.CorePlays'. -/
def corePlaysCard : Claim7 := { stood := { row := corePlaysRow, standIns := [], harness := (true, "ca6040446d3e6279fea235565f63e31067a8a01b2a3c81cedb1aabf5db81a5ea"), looks := false }, kinds := [], alts := [], laidByText := true, laidKinds := [.data], laidTests := true, laidLooks := .later }
def CorePlaysCardSaid : Prop := Claim7.holds Tryz.pinned (.plain (OpenSpec.ofChange corePlaysSpec)) corePlaysCard

/-- THE SECOND FORM's CARD OF 'hermitagelaw13.CorePlays'. -/
def corePlaysUptoCard : Claim7 := { stood := { row := corePlaysUptoRow, standIns := [], harness := (true, "ca6040446d3e6279fea235565f63e31067a8a01b2a3c81cedb1aabf5db81a5ea"), looks := false }, kinds := [], alts := [], laidByText := true, laidKinds := [.data], laidTests := true, laidLooks := .later }
def CorePlaysUptoCardSaid : Prop := Claim7.holds Tryz.pinned (.plain (OpenSpec.upto corePlaysSpec)) corePlaysUptoCard
end Rows
end Go.Proofs.YtiohfdhmkikckaaGreatDoor
