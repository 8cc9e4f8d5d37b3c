/-
  DERIVED. GIVEN WITH THE SEED: THE CARDS: each row of YtbemhbooihaadaaDoorRows.lean that lists a variable, with what it lists TIED to the program's text (the seventh form; the later family's looks); each row that meets fmt, with fmt's text TOLD by the authors' own Lean function (tested against real Go, not proved from fmt's source: count such statements apart). THE CARD IS WHAT COUNTS. Prove the row's statement (the work); the ties are given (YtbemhbooihaadaaDoorTie.lean); close each card by the builder's one call (the guide's Derived/Test/ToyasCard.lean, 'card_holds'). Laid BY PROGRAM, IN A SANDBOX (cutbox-door.mjs). By AI agents, Wed Nov 11 2026. No macro, syntax, notation, axiom, sorry.
-/
import Derived.Test.YtbemhbooihaadaaDoorRows
import GoSem.ClaimSeven
namespace Go.Proofs.YtbemhbooihaadaaDoor
namespace Rows

/-- THE TIED CARD OF 'hermitagelaw10.AsmTexts'. -/
def asmTextsCard : Claim7 := { stood := { row := asmTextsRow, standIns := [], harness := (true, "7179cab5414cb2a733d466ef2ed4fdb800d1ac66ba98c52c7d858f57a2a30040"), looks := false }, kinds := [], alts := [], laidByText := true, laidKinds := [.data, .data, .data, .data, .data, .pinned], laidTests := true, laidLooks := .later }
def AsmTextsCardSaid : Prop := Claim7.holds Tryd.pinned (.plain (OpenSpec.ofChange asmTextsSpec)) asmTextsCard

/-- THE TIED CARD OF 'hermitagelaw10.AsmBack'. -/
def asmBackCard : Claim7 := { stood := { row := asmBackRow, standIns := [], harness := (true, "7179cab5414cb2a733d466ef2ed4fdb800d1ac66ba98c52c7d858f57a2a30040"), looks := false }, kinds := [], alts := [], laidByText := true, laidKinds := [.data, .data, .data, .data, .data, .pinned], laidTests := true, laidLooks := .later }
def AsmBackCardSaid : Prop := Claim7.holds Tryd.pinned (.plain (OpenSpec.ofChange asmBackSpec)) asmBackCard

/-- THE TIED CARD OF 'hermitagelaw10.AsmPrograms'. -/
def asmProgramsCard : Claim7 := { stood := { row := asmProgramsRow, standIns := [], harness := (true, "7179cab5414cb2a733d466ef2ed4fdb800d1ac66ba98c52c7d858f57a2a30040"), looks := false }, kinds := [], alts := [], laidByText := true, laidKinds := [.data, .data, .data, .data, .data, .pinned], laidTests := true, laidLooks := .later }
def AsmProgramsCardSaid : Prop := Claim7.holds Tryd.pinned (.plain (OpenSpec.ofChange asmProgramsSpec)) asmProgramsCard

/-- THE TIED CARD OF 'hermitagelaw10.AsmList'. -/
def asmListCard : Claim7 := { stood := { row := asmListRow, standIns := [], harness := (true, "7179cab5414cb2a733d466ef2ed4fdb800d1ac66ba98c52c7d858f57a2a30040"), looks := false }, kinds := [], alts := [], laidByText := true, laidKinds := [.data, .data, .data, .data, .data, .pinned], laidTests := true, laidLooks := .later }
def AsmListCardSaid : Prop := Claim7.holds Tryd.pinned (.plain (OpenSpec.ofChange asmListSpec)) asmListCard

/-- THE SECOND FORM's CARD OF 'hermitagelaw10.AsmTexts'. -/
def asmTextsUptoCard : Claim7 := { stood := { row := asmTextsUptoRow, standIns := [], harness := (true, "7179cab5414cb2a733d466ef2ed4fdb800d1ac66ba98c52c7d858f57a2a30040"), looks := false }, kinds := [], alts := [], laidByText := true, laidKinds := [.data, .data, .data, .data, .data, .pinned], laidTests := true, laidLooks := .later }
def AsmTextsUptoCardSaid : Prop := Claim7.holds Tryd.pinned (.plain (OpenSpec.upto asmTextsSpec)) asmTextsUptoCard

/-- THE SECOND FORM's CARD OF 'hermitagelaw10.AsmBack'. -/
def asmBackUptoCard : Claim7 := { stood := { row := asmBackUptoRow, standIns := [], harness := (true, "7179cab5414cb2a733d466ef2ed4fdb800d1ac66ba98c52c7d858f57a2a30040"), looks := false }, kinds := [], alts := [], laidByText := true, laidKinds := [.data, .data, .data, .data, .data, .pinned], laidTests := true, laidLooks := .later }
def AsmBackUptoCardSaid : Prop := Claim7.holds Tryd.pinned (.plain (OpenSpec.upto asmBackSpec)) asmBackUptoCard

/-- THE SECOND FORM's CARD OF 'hermitagelaw10.AsmPrograms'. -/
def asmProgramsUptoCard : Claim7 := { stood := { row := asmProgramsUptoRow, standIns := [], harness := (true, "7179cab5414cb2a733d466ef2ed4fdb800d1ac66ba98c52c7d858f57a2a30040"), looks := false }, kinds := [], alts := [], laidByText := true, laidKinds := [.data, .data, .data, .data, .data, .pinned], laidTests := true, laidLooks := .later }
def AsmProgramsUptoCardSaid : Prop := Claim7.holds Tryd.pinned (.plain (OpenSpec.upto asmProgramsSpec)) asmProgramsUptoCard

/-- THE SECOND FORM's CARD OF 'hermitagelaw10.AsmList'. -/
def asmListUptoCard : Claim7 := { stood := { row := asmListUptoRow, standIns := [], harness := (true, "7179cab5414cb2a733d466ef2ed4fdb800d1ac66ba98c52c7d858f57a2a30040"), looks := false }, kinds := [], alts := [], laidByText := true, laidKinds := [.data, .data, .data, .data, .data, .pinned], laidTests := true, laidLooks := .later }
def AsmListUptoCardSaid : Prop := Claim7.holds Tryd.pinned (.plain (OpenSpec.upto asmListSpec)) asmListUptoCard
end Rows
end Go.Proofs.YtbemhbooihaadaaDoor
