/-
  DERIVED. GIVEN WITH THE SEED: THE CARDS: each row of YtjphehncpgekfaaDoorRows.lean that lists a variable, with what it lists TIED to the program's text (the seventh form; the later family's looks); each row that meets fmt, with fmt's text TOLD by the authors' own Lean function (tested against real Go, not proved from fmt's source: count such statements apart). THE CARD IS WHAT COUNTS. Prove the row's statement (the work); the ties are given (YtjphehncpgekfaaDoorTie.lean); close each card by the builder's one call (the guide's Derived/Test/ToyasCard.lean, 'card_holds'). Laid BY PROGRAM, IN A SANDBOX (cutbox-door.mjs). By AI agents, Wed Nov 11 2026. No macro, syntax, notation, axiom, sorry.
-/
import Derived.Test.YtjphehncpgekfaaDoorRows
import GoSem.ClaimSeven
namespace Go.Proofs.YtjphehncpgekfaaDoor
namespace Rows

/-- THE TIED CARD OF 'hermitagelaw09.IsaBack'. -/
def isaBackCard : Claim7 := { stood := { row := isaBackRow, standIns := [], harness := (true, "7a881e0b8e3126a02eb374406aadaade9e007a4214a4b5ffe4ac9f9d96388072"), looks := false }, kinds := [], alts := [], laidByText := true, laidKinds := [.data], laidTests := true, laidLooks := .later }
def IsaBackCardSaid : Prop := Claim7.holds Tryd.pinned (.plain (OpenSpec.ofChange isaBackSpec)) isaBackCard

/-- THE TIED CARD OF 'hermitagelaw09.IsaOps'. -/
def isaOpsCard : Claim7 := { stood := { row := isaOpsRow, standIns := [], harness := (true, "7a881e0b8e3126a02eb374406aadaade9e007a4214a4b5ffe4ac9f9d96388072"), looks := false }, kinds := [], alts := [], laidByText := true, laidKinds := [.data], laidTests := true, laidLooks := .later }
def IsaOpsCardSaid : Prop := Claim7.holds Tryd.pinned (.plain (OpenSpec.ofChange isaOpsSpec)) isaOpsCard

/-- THE TIED CARD OF 'hermitagelaw09.IsaPlays'. -/
def isaPlaysCard : Claim7 := { stood := { row := isaPlaysRow, standIns := [], harness := (true, "7a881e0b8e3126a02eb374406aadaade9e007a4214a4b5ffe4ac9f9d96388072"), looks := false }, kinds := [], alts := [], laidByText := true, laidKinds := [.data], laidTests := true, laidLooks := .later }
def IsaPlaysCardSaid : Prop := Claim7.holds Tryd.pinned (.plain (OpenSpec.ofChange isaPlaysSpec)) isaPlaysCard

/-- THE TIED CARD OF 'hermitagelaw09.IsaTold'. -/
def isaToldCard : Claim7 := { stood := { row := isaToldRow, standIns := [], harness := (true, "7a881e0b8e3126a02eb374406aadaade9e007a4214a4b5ffe4ac9f9d96388072"), looks := false }, kinds := [], alts := [], laidByText := true, laidKinds := [.data], laidTests := true, laidLooks := .later }
def IsaToldCardSaid : Prop := Claim7.holds Tryd.pinned (.plain (OpenSpec.ofChange isaToldSpec)) isaToldCard

/-- THE SECOND FORM's CARD OF 'hermitagelaw09.IsaBack'. -/
def isaBackUptoCard : Claim7 := { stood := { row := isaBackUptoRow, standIns := [], harness := (true, "7a881e0b8e3126a02eb374406aadaade9e007a4214a4b5ffe4ac9f9d96388072"), looks := false }, kinds := [], alts := [], laidByText := true, laidKinds := [.data], laidTests := true, laidLooks := .later }
def IsaBackUptoCardSaid : Prop := Claim7.holds Tryd.pinned (.plain (OpenSpec.upto isaBackSpec)) isaBackUptoCard

/-- THE SECOND FORM's CARD OF 'hermitagelaw09.IsaOps'. -/
def isaOpsUptoCard : Claim7 := { stood := { row := isaOpsUptoRow, standIns := [], harness := (true, "7a881e0b8e3126a02eb374406aadaade9e007a4214a4b5ffe4ac9f9d96388072"), looks := false }, kinds := [], alts := [], laidByText := true, laidKinds := [.data], laidTests := true, laidLooks := .later }
def IsaOpsUptoCardSaid : Prop := Claim7.holds Tryd.pinned (.plain (OpenSpec.upto isaOpsSpec)) isaOpsUptoCard

/-- THE SECOND FORM's CARD OF 'hermitagelaw09.IsaPlays'. -/
def isaPlaysUptoCard : Claim7 := { stood := { row := isaPlaysUptoRow, standIns := [], harness := (true, "7a881e0b8e3126a02eb374406aadaade9e007a4214a4b5ffe4ac9f9d96388072"), looks := false }, kinds := [], alts := [], laidByText := true, laidKinds := [.data], laidTests := true, laidLooks := .later }
def IsaPlaysUptoCardSaid : Prop := Claim7.holds Tryd.pinned (.plain (OpenSpec.upto isaPlaysSpec)) isaPlaysUptoCard

/-- THE SECOND FORM's CARD OF 'hermitagelaw09.IsaTold'. -/
def isaToldUptoCard : Claim7 := { stood := { row := isaToldUptoRow, standIns := [], harness := (true, "7a881e0b8e3126a02eb374406aadaade9e007a4214a4b5ffe4ac9f9d96388072"), looks := false }, kinds := [], alts := [], laidByText := true, laidKinds := [.data], laidTests := true, laidLooks := .later }
def IsaToldUptoCardSaid : Prop := Claim7.holds Tryd.pinned (.plain (OpenSpec.upto isaToldSpec)) isaToldUptoCard
end Rows
end Go.Proofs.YtjphehncpgekfaaDoor
