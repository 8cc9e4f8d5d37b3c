/-
  DERIVED. GIVEN WITH THE SEED: THE CARDS: each row of YtoalpdjpljapbaaGreatDoorRows.lean that lists a variable, with what it lists TIED to the program's text (the seventh form; the later family's looks); each row that meets fmt, with fmt's text TOLD by the authors' own Lean function (tested against real Go, not proved from fmt's source: count such statements apart). THE CARD IS WHAT COUNTS. Prove the row's statement (the work); the ties are given (YtoalpdjpljapbaaGreatDoorTie.lean); close each card by the builder's one call (the guide's Derived/Test/ToyasCard.lean, 'card_holds'). Laid BY PROGRAM, IN A SANDBOX (cutbox-door.mjs). By AI agents, Wed Nov 11 2026. No macro, syntax, notation, axiom, sorry.
-/
import Derived.Test.YtoalpdjpljapbaaGreatDoorRows
import GoSem.ClaimSeven
namespace Go.Proofs.YtoalpdjpljapbaaGreatDoor
namespace Rows

/-- THE TIED CARD OF 'hermitagelaw05.PlanPrints'. -/
def planPrintsCard : Claim7 := { stood := { row := planPrintsRow, standIns := [], harness := (true, "d9f619f376c1bb753fdc5270a1e126c8c5361ca79c85bd62f7026900e805e0e6"), looks := false }, kinds := [], alts := [], laidByText := true, laidKinds := [.data, .data, .data, .data, .data, .pinned], laidTests := true, laidLooks := .later }
def PlanPrintsCardSaid : Prop := Claim7.holds Tryz.pinned (.plain (OpenSpec.ofChange planPrintsSpec)) planPrintsCard

/-- THE SECOND FORM's CARD OF 'hermitagelaw05.PlanPrints'. -/
def planPrintsUptoCard : Claim7 := { stood := { row := planPrintsUptoRow, standIns := [], harness := (true, "d9f619f376c1bb753fdc5270a1e126c8c5361ca79c85bd62f7026900e805e0e6"), looks := false }, kinds := [], alts := [], laidByText := true, laidKinds := [.data, .data, .data, .data, .data, .pinned], laidTests := true, laidLooks := .later }
def PlanPrintsUptoCardSaid : Prop := Claim7.holds Tryz.pinned (.plain (OpenSpec.upto planPrintsSpec)) planPrintsUptoCard
end Rows
end Go.Proofs.YtoalpdjpljapbaaGreatDoor
