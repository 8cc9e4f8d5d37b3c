/-
  DERIVED. GIVEN WITH THE SEED: THE CARDS: each row of YtoalpdjpljapbaaDoorRows.lean that lists a variable, with what it lists TIED to the program's text (the seventh form; the later family's looks); each row that meets fmt, with fmt's text TOLD by the authors' own Lean function (tested against real Go, not proved from fmt's source: count such statements apart). THE CARD IS WHAT COUNTS. Prove the row's statement (the work); the ties are given (YtoalpdjpljapbaaDoorTie.lean); close each card by the builder's one call (the guide's Derived/Test/ToyasCard.lean, 'card_holds'). Laid BY PROGRAM, IN A SANDBOX (cutbox-door.mjs). By AI agents, Wed Nov 11 2026. No macro, syntax, notation, axiom, sorry.
-/
import Derived.Test.YtoalpdjpljapbaaDoorRows
import GoSem.ClaimSeven
namespace Go.Proofs.YtoalpdjpljapbaaDoor
namespace Rows

/-- THE TIED CARD OF 'hermitagelaw05.PlanReads'. -/
def planReadsCard : Claim7 := { stood := { row := planReadsRow, standIns := [], harness := (true, "7e681e619d8f5f0fbbd6d8cb46735175050728e7c626c46f2091c1f4cb50967f"), looks := false }, kinds := [], alts := [], laidByText := true, laidKinds := [.data, .data, .pinned], laidTests := true, laidLooks := .later }
def PlanReadsCardSaid : Prop := Claim7.holds Tryd.pinned (.plain (OpenSpec.ofChange planReadsSpec)) planReadsCard

/-- THE TIED CARD OF 'hermitagelaw05.PlanWords'. -/
def planWordsCard : Claim7 := { stood := { row := planWordsRow, standIns := [], harness := (true, "7e681e619d8f5f0fbbd6d8cb46735175050728e7c626c46f2091c1f4cb50967f"), looks := false }, kinds := [], alts := [], laidByText := true, laidKinds := [.data, .data, .pinned], laidTests := true, laidLooks := .later }
def PlanWordsCardSaid : Prop := Claim7.holds Tryd.pinned (.plain (OpenSpec.ofChange planWordsSpec)) planWordsCard

/-- THE TIED CARD OF 'hermitagelaw05.PlanBack'. -/
def planBackCard : Claim7 := { stood := { row := planBackRow, standIns := [], harness := (true, "7e681e619d8f5f0fbbd6d8cb46735175050728e7c626c46f2091c1f4cb50967f"), looks := false }, kinds := [], alts := [], laidByText := true, laidKinds := [.data, .data, .data, .data, .data, .pinned], laidTests := true, laidLooks := .later }
def PlanBackCardSaid : Prop := Claim7.holds Tryd.pinned (.plain (OpenSpec.ofChange planBackSpec)) planBackCard

/-- THE SECOND FORM's CARD OF 'hermitagelaw05.PlanReads'. -/
def planReadsUptoCard : Claim7 := { stood := { row := planReadsUptoRow, standIns := [], harness := (true, "7e681e619d8f5f0fbbd6d8cb46735175050728e7c626c46f2091c1f4cb50967f"), looks := false }, kinds := [], alts := [], laidByText := true, laidKinds := [.data, .data, .pinned], laidTests := true, laidLooks := .later }
def PlanReadsUptoCardSaid : Prop := Claim7.holds Tryd.pinned (.plain (OpenSpec.upto planReadsSpec)) planReadsUptoCard

/-- THE SECOND FORM's CARD OF 'hermitagelaw05.PlanWords'. -/
def planWordsUptoCard : Claim7 := { stood := { row := planWordsUptoRow, standIns := [], harness := (true, "7e681e619d8f5f0fbbd6d8cb46735175050728e7c626c46f2091c1f4cb50967f"), looks := false }, kinds := [], alts := [], laidByText := true, laidKinds := [.data, .data, .pinned], laidTests := true, laidLooks := .later }
def PlanWordsUptoCardSaid : Prop := Claim7.holds Tryd.pinned (.plain (OpenSpec.upto planWordsSpec)) planWordsUptoCard

/-- THE SECOND FORM's CARD OF 'hermitagelaw05.PlanBack'. -/
def planBackUptoCard : Claim7 := { stood := { row := planBackUptoRow, standIns := [], harness := (true, "7e681e619d8f5f0fbbd6d8cb46735175050728e7c626c46f2091c1f4cb50967f"), looks := false }, kinds := [], alts := [], laidByText := true, laidKinds := [.data, .data, .data, .data, .data, .pinned], laidTests := true, laidLooks := .later }
def PlanBackUptoCardSaid : Prop := Claim7.holds Tryd.pinned (.plain (OpenSpec.upto planBackSpec)) planBackUptoCard
end Rows
end Go.Proofs.YtoalpdjpljapbaaDoor
