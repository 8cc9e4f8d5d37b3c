/-
  DERIVED. GIVEN WITH THE SEED: THE CARDS: each row of YtiohfdhmkikckaaDoorRows.lean that lists a variable, with what it lists TIED to the program's text (the seventh form; the later family's looks); each row that meets fmt, with fmt's text TOLD by the authors' own Lean function (tested against real Go, not proved from fmt's source: count such statements apart). THE CARD IS WHAT COUNTS. Prove the row's statement (the work); the ties are given (YtiohfdhmkikckaaDoorTie.lean); close each card by the builder's one call (the guide's Derived/Test/ToyasCard.lean, 'card_holds'). Laid BY PROGRAM, IN A SANDBOX (cutbox-door.mjs). By AI agents, Wed Nov 11 2026. No macro, syntax, notation, axiom, sorry.
-/
import Derived.Test.YtiohfdhmkikckaaDoorRows
import GoSem.ClaimSeven
namespace Go.Proofs.YtiohfdhmkikckaaDoor
namespace Rows

/-- THE TIED CARD OF 'hermitagelaw13.CoreZero'. -/
def coreZeroCard : Claim7 := { stood := { row := coreZeroRow, standIns := [], harness := (true, "7f3f6339732d05e9c3992c2ceba603331d031000dadb80d5558952c162e22368"), looks := false }, kinds := [], alts := [], laidByText := true, laidKinds := [.data], laidTests := true, laidLooks := .later }
def CoreZeroCardSaid : Prop := Claim7.holds Tryd.pinned (.plain (OpenSpec.ofChange coreZeroSpec)) coreZeroCard

/-- THE TIED CARD OF 'hermitagelaw13.CoreKernel'. -/
def coreKernelCard : Claim7 := { stood := { row := coreKernelRow, standIns := [], harness := (true, "7f3f6339732d05e9c3992c2ceba603331d031000dadb80d5558952c162e22368"), looks := false }, kinds := [], alts := [], laidByText := true, laidKinds := [.data], laidTests := true, laidLooks := .later }
def CoreKernelCardSaid : Prop := Claim7.holds Tryd.pinned (.plain (OpenSpec.ofChange coreKernelSpec)) coreKernelCard

/-- THE TIED CARD OF 'hermitagelaw13.CoreAsks'. -/
def coreAsksCard : Claim7 := { stood := { row := coreAsksRow, standIns := [], harness := (true, "7f3f6339732d05e9c3992c2ceba603331d031000dadb80d5558952c162e22368"), looks := false }, kinds := [], alts := [], laidByText := true, laidKinds := [.data], laidTests := true, laidLooks := .later }
def CoreAsksCardSaid : Prop := Claim7.holds Tryd.pinned (.plain (OpenSpec.ofChange coreAsksSpec)) coreAsksCard

/-- THE TIED CARD OF 'hermitagelaw13.CoreOne'. -/
def coreOneCard : Claim7 := { stood := { row := coreOneRow, standIns := [], harness := (true, "7f3f6339732d05e9c3992c2ceba603331d031000dadb80d5558952c162e22368"), looks := false }, kinds := [], alts := [], laidByText := true, laidKinds := [.data], laidTests := true, laidLooks := .later }
def CoreOneCardSaid : Prop := Claim7.holds Tryd.pinned (.plain (OpenSpec.ofChange coreOneSpec)) coreOneCard

/-- THE SECOND FORM's CARD OF 'hermitagelaw13.CoreZero'. -/
def coreZeroUptoCard : Claim7 := { stood := { row := coreZeroUptoRow, standIns := [], harness := (true, "7f3f6339732d05e9c3992c2ceba603331d031000dadb80d5558952c162e22368"), looks := false }, kinds := [], alts := [], laidByText := true, laidKinds := [.data], laidTests := true, laidLooks := .later }
def CoreZeroUptoCardSaid : Prop := Claim7.holds Tryd.pinned (.plain (OpenSpec.upto coreZeroSpec)) coreZeroUptoCard

/-- THE SECOND FORM's CARD OF 'hermitagelaw13.CoreKernel'. -/
def coreKernelUptoCard : Claim7 := { stood := { row := coreKernelUptoRow, standIns := [], harness := (true, "7f3f6339732d05e9c3992c2ceba603331d031000dadb80d5558952c162e22368"), looks := false }, kinds := [], alts := [], laidByText := true, laidKinds := [.data], laidTests := true, laidLooks := .later }
def CoreKernelUptoCardSaid : Prop := Claim7.holds Tryd.pinned (.plain (OpenSpec.upto coreKernelSpec)) coreKernelUptoCard

/-- THE SECOND FORM's CARD OF 'hermitagelaw13.CoreAsks'. -/
def coreAsksUptoCard : Claim7 := { stood := { row := coreAsksUptoRow, standIns := [], harness := (true, "7f3f6339732d05e9c3992c2ceba603331d031000dadb80d5558952c162e22368"), looks := false }, kinds := [], alts := [], laidByText := true, laidKinds := [.data], laidTests := true, laidLooks := .later }
def CoreAsksUptoCardSaid : Prop := Claim7.holds Tryd.pinned (.plain (OpenSpec.upto coreAsksSpec)) coreAsksUptoCard

/-- THE SECOND FORM's CARD OF 'hermitagelaw13.CoreOne'. -/
def coreOneUptoCard : Claim7 := { stood := { row := coreOneUptoRow, standIns := [], harness := (true, "7f3f6339732d05e9c3992c2ceba603331d031000dadb80d5558952c162e22368"), looks := false }, kinds := [], alts := [], laidByText := true, laidKinds := [.data], laidTests := true, laidLooks := .later }
def CoreOneUptoCardSaid : Prop := Claim7.holds Tryd.pinned (.plain (OpenSpec.upto coreOneSpec)) coreOneUptoCard
end Rows
end Go.Proofs.YtiohfdhmkikckaaDoor
