/-
  DERIVED. GIVEN WITH THE SEED: THE CARDS: each row of YtcffdceadmdecaaDoorRows.lean that lists a variable, with what it lists TIED to the program's text (the seventh form; the later family's looks); each row that meets fmt, with fmt's text TOLD by the authors' own Lean function (tested against real Go, not proved from fmt's source: count such statements apart). THE CARD IS WHAT COUNTS. Prove the row's statement (the work); the ties are given (YtcffdceadmdecaaDoorTie.lean); close each card by the builder's one call (the guide's Derived/Test/ToyasCard.lean, 'card_holds'). Laid BY PROGRAM, IN A SANDBOX (cutbox-door.mjs). By AI agents, Wed Nov 11 2026. No macro, syntax, notation, axiom, sorry.
-/
import Derived.Test.YtcffdceadmdecaaDoorRows
import GoSem.ClaimSeven
namespace Go.Proofs.YtcffdceadmdecaaDoor
namespace Rows

/-- THE TIED CARD OF 'hermitagelaw34.TraceOne'. -/
def traceOneCard : Claim7 := { stood := { row := traceOneRow, standIns := [], harness := (true, "d62a9cd948dd1aef65f4a74bc8cf2837d004269dd42e34a1cde88b77c7c70340"), looks := false }, kinds := [], alts := [], laidByText := true, laidKinds := [.data, .data, .data, .data], laidTests := true, laidLooks := .later }
def TraceOneCardSaid : Prop := Claim7.holds Tryd.pinned (.plain (OpenSpec.ofChange traceOneSpec)) traceOneCard

/-- THE TIED CARD OF 'hermitagelaw34.TraceTexts'. -/
def traceTextsCard : Claim7 := { stood := { row := traceTextsRow, standIns := [], harness := (true, "d62a9cd948dd1aef65f4a74bc8cf2837d004269dd42e34a1cde88b77c7c70340"), looks := false }, kinds := [], alts := [], laidByText := true, laidKinds := [.data, .data, .data, .data], laidTests := true, laidLooks := .later }
def TraceTextsCardSaid : Prop := Claim7.holds Tryd.pinned (.plain (OpenSpec.ofChange traceTextsSpec)) traceTextsCard

/-- THE TIED CARD OF 'hermitagelaw34.TracePlays'. -/
def tracePlaysCard : Claim7 := { stood := { row := tracePlaysRow, standIns := [], harness := (true, "d62a9cd948dd1aef65f4a74bc8cf2837d004269dd42e34a1cde88b77c7c70340"), looks := false }, kinds := [], alts := [], laidByText := true, laidKinds := [.data, .data, .data, .data], laidTests := true, laidLooks := .later }
def TracePlaysCardSaid : Prop := Claim7.holds Tryd.pinned (.plain (OpenSpec.ofChange tracePlaysSpec)) tracePlaysCard

/-- THE TIED CARD OF 'hermitagelaw34.TraceFull'. -/
def traceFullCard : Claim7 := { stood := { row := traceFullRow, standIns := [], harness := (true, "d62a9cd948dd1aef65f4a74bc8cf2837d004269dd42e34a1cde88b77c7c70340"), looks := false }, kinds := [], alts := [], laidByText := true, laidKinds := [.data, .data, .data, .data], laidTests := true, laidLooks := .later }
def TraceFullCardSaid : Prop := Claim7.holds Tryd.pinned (.plain (OpenSpec.ofChange traceFullSpec)) traceFullCard

/-- THE SECOND FORM's CARD OF 'hermitagelaw34.TraceOne'. -/
def traceOneUptoCard : Claim7 := { stood := { row := traceOneUptoRow, standIns := [], harness := (true, "d62a9cd948dd1aef65f4a74bc8cf2837d004269dd42e34a1cde88b77c7c70340"), looks := false }, kinds := [], alts := [], laidByText := true, laidKinds := [.data, .data, .data, .data], laidTests := true, laidLooks := .later }
def TraceOneUptoCardSaid : Prop := Claim7.holds Tryd.pinned (.plain (OpenSpec.upto traceOneSpec)) traceOneUptoCard

/-- THE SECOND FORM's CARD OF 'hermitagelaw34.TraceTexts'. -/
def traceTextsUptoCard : Claim7 := { stood := { row := traceTextsUptoRow, standIns := [], harness := (true, "d62a9cd948dd1aef65f4a74bc8cf2837d004269dd42e34a1cde88b77c7c70340"), looks := false }, kinds := [], alts := [], laidByText := true, laidKinds := [.data, .data, .data, .data], laidTests := true, laidLooks := .later }
def TraceTextsUptoCardSaid : Prop := Claim7.holds Tryd.pinned (.plain (OpenSpec.upto traceTextsSpec)) traceTextsUptoCard

/-- THE SECOND FORM's CARD OF 'hermitagelaw34.TracePlays'. -/
def tracePlaysUptoCard : Claim7 := { stood := { row := tracePlaysUptoRow, standIns := [], harness := (true, "d62a9cd948dd1aef65f4a74bc8cf2837d004269dd42e34a1cde88b77c7c70340"), looks := false }, kinds := [], alts := [], laidByText := true, laidKinds := [.data, .data, .data, .data], laidTests := true, laidLooks := .later }
def TracePlaysUptoCardSaid : Prop := Claim7.holds Tryd.pinned (.plain (OpenSpec.upto tracePlaysSpec)) tracePlaysUptoCard

/-- THE SECOND FORM's CARD OF 'hermitagelaw34.TraceFull'. -/
def traceFullUptoCard : Claim7 := { stood := { row := traceFullUptoRow, standIns := [], harness := (true, "d62a9cd948dd1aef65f4a74bc8cf2837d004269dd42e34a1cde88b77c7c70340"), looks := false }, kinds := [], alts := [], laidByText := true, laidKinds := [.data, .data, .data, .data], laidTests := true, laidLooks := .later }
def TraceFullUptoCardSaid : Prop := Claim7.holds Tryd.pinned (.plain (OpenSpec.upto traceFullSpec)) traceFullUptoCard
end Rows
end Go.Proofs.YtcffdceadmdecaaDoor
