/-
  No cell of these rows narrows 'for every input' (looked for: loops, veiled, ifaces, maps, wideKeys, modest, calm, conditions, laid).
  DERIVED. THE GIVEN ROWS OF THIS SEAT. 5 by the template 'for every input the law returns true; each argument reads behind the call as it read before'; 0 by the template 'total and deterministic' (their statements: YtnhapfoebiniiaaTotals.lean).
  GIVEN WITH THE SEED: the statements are not yours to turn. If you find one false, say at which input.
  Laid BY PROGRAM, IN A SANDBOX (cutbox-rows.mjs): the forced cells as the released guide's own fill.sh prints them over the translation 83e07b043845e0ba… (all of the seat's roots in one cut). By AI agents, Wed Nov 11 2026. No macro, syntax, notation, axiom, sorry.
-/
import Derived.Test.YtnhapfoebiniiaaChecked
import GoSem.Claim
import GoSem.ClaimJoined
import GoSem.ClaimMapViews
import Derived.JoinedTies
import Derived.KernelRfl
namespace Go.Proofs.Ytnhapfoebiniiaa
/- THE CELL 'sum', in the pinned program and in every row, IS THE sha256 OF THE DUMP (.gsa) THAT YtnhapfoebiniiaaProg.lean LOADS. Nothing in Lean hashes anything: it is a label: what it is worth is what the hold of that sum in a sandbox is worth. -/
noncomputable def Try.pinned : Pinned := { name := "ytnhapfoebiniiaa", sum := "83e07b043845e0baf3088972bcd780f54f3b50b3a95982f6ebc3067131bb1aa8", checked := Try.checked }
namespace Rows
def none {H : Type} : Left H := { results := [], args := [] }

/-- 'hermitagelaw31.GatePlays': WHATEVER THE INPUT: true; the input reads as it did. -/
def gatePlaysSpec : ChangeSpec := { name := "gatePlays", fn := fun _ => fun
  | [d1, d2, d3, d4] => { results := [.lit (.bool true)], args := [d1, d2, d3, d4] }
  | _ => none }
def gatePlaysRow : OpenClaim := { program := "ytnhapfoebiniiaa", sum := "83e07b043845e0baf3088972bcd780f54f3b50b3a95982f6ebc3067131bb1aa8", func := "hermitage/hermitagelaw31.GatePlays", spec := "gatePlays", apart := false }
def GatePlaysSaid : Prop := gatePlaysRow.holds Try.pinned (OpenSpec.ofChange gatePlaysSpec)

/-- ITS FALSE NEIGHBOUR: 'it returns false'. Refute it at one input. -/
def gatePlaysWrong : ChangeSpec := { name := "gatePlays", fn := fun _ => fun
  | [d1, d2, d3, d4] => { results := [.lit (.bool false)], args := [d1, d2, d3, d4] }
  | _ => none }
def GatePlaysWrongFalsely : Prop := gatePlaysRow.holds Try.pinned (OpenSpec.ofChange gatePlaysWrong)

/-- 'hermitagelaw31.GateQuota': WHATEVER THE INPUT: true; the input reads as it did. -/
def gateQuotaSpec : ChangeSpec := { name := "gateQuota", fn := fun _ => fun
  | [d1, d2, d3] => { results := [.lit (.bool true)], args := [d1, d2, d3] }
  | _ => none }
def gateQuotaRow : OpenClaim := { program := "ytnhapfoebiniiaa", sum := "83e07b043845e0baf3088972bcd780f54f3b50b3a95982f6ebc3067131bb1aa8", func := "hermitage/hermitagelaw31.GateQuota", spec := "gateQuota", apart := false }
def GateQuotaSaid : Prop := gateQuotaRow.holds Try.pinned (OpenSpec.ofChange gateQuotaSpec)

/-- ITS FALSE NEIGHBOUR: 'it returns false'. Refute it at one input. -/
def gateQuotaWrong : ChangeSpec := { name := "gateQuota", fn := fun _ => fun
  | [d1, d2, d3] => { results := [.lit (.bool false)], args := [d1, d2, d3] }
  | _ => none }
def GateQuotaWrongFalsely : Prop := gateQuotaRow.holds Try.pinned (OpenSpec.ofChange gateQuotaWrong)

/-- 'hermitagelaw31.GateWho': WHATEVER THE INPUT: true; the input reads as it did. -/
def gateWhoSpec : ChangeSpec := { name := "gateWho", fn := fun _ => fun
  | [d1, d2, d3] => { results := [.lit (.bool true)], args := [d1, d2, d3] }
  | _ => none }
def gateWhoRow : OpenClaim := { program := "ytnhapfoebiniiaa", sum := "83e07b043845e0baf3088972bcd780f54f3b50b3a95982f6ebc3067131bb1aa8", func := "hermitage/hermitagelaw31.GateWho", spec := "gateWho", apart := false }
def GateWhoSaid : Prop := gateWhoRow.holds Try.pinned (OpenSpec.ofChange gateWhoSpec)

/-- ITS FALSE NEIGHBOUR: 'it returns false'. Refute it at one input. -/
def gateWhoWrong : ChangeSpec := { name := "gateWho", fn := fun _ => fun
  | [d1, d2, d3] => { results := [.lit (.bool false)], args := [d1, d2, d3] }
  | _ => none }
def GateWhoWrongFalsely : Prop := gateWhoRow.holds Try.pinned (OpenSpec.ofChange gateWhoWrong)

/-- 'hermitagelaw31.GateBox': WHATEVER THE INPUT: true; the input reads as it did. -/
def gateBoxSpec : ChangeSpec := { name := "gateBox", fn := fun _ => fun
  | [d1, d2] => { results := [.lit (.bool true)], args := [d1, d2] }
  | _ => none }
def gateBoxRow : OpenClaim := { program := "ytnhapfoebiniiaa", sum := "83e07b043845e0baf3088972bcd780f54f3b50b3a95982f6ebc3067131bb1aa8", func := "hermitage/hermitagelaw31.GateBox", spec := "gateBox", apart := false }
def GateBoxSaid : Prop := gateBoxRow.holds Try.pinned (OpenSpec.ofChange gateBoxSpec)

/-- ITS FALSE NEIGHBOUR: 'it returns false'. Refute it at one input. -/
def gateBoxWrong : ChangeSpec := { name := "gateBox", fn := fun _ => fun
  | [d1, d2] => { results := [.lit (.bool false)], args := [d1, d2] }
  | _ => none }
def GateBoxWrongFalsely : Prop := gateBoxRow.holds Try.pinned (OpenSpec.ofChange gateBoxWrong)

/-- 'hermitagelaw31.GateZero': WHATEVER THE INPUT: true; the input reads as it did. -/
def gateZeroSpec : ChangeSpec := { name := "gateZero", fn := fun _ => fun
  | [d1, d2, d3] => { results := [.lit (.bool true)], args := [d1, d2, d3] }
  | _ => none }
def gateZeroRow : OpenClaim := { program := "ytnhapfoebiniiaa", sum := "83e07b043845e0baf3088972bcd780f54f3b50b3a95982f6ebc3067131bb1aa8", func := "hermitage/hermitagelaw31.GateZero", spec := "gateZero", apart := false }
def GateZeroSaid : Prop := gateZeroRow.holds Try.pinned (OpenSpec.ofChange gateZeroSpec)

/-- ITS FALSE NEIGHBOUR: 'it returns false'. Refute it at one input. -/
def gateZeroWrong : ChangeSpec := { name := "gateZero", fn := fun _ => fun
  | [d1, d2, d3] => { results := [.lit (.bool false)], args := [d1, d2, d3] }
  | _ => none }
def GateZeroWrongFalsely : Prop := gateZeroRow.holds Try.pinned (OpenSpec.ofChange gateZeroWrong)

/- THE SECOND FORM. 'bulk': how many values and letters a reading holds, each counted each time it is reached (what is shared counts as often as it is met; a slice's spare places count too). A statement '..UptoSaid' is the law's where the arguments, and the package variables that the reading takes, are together of bulk at most 1048576: NARROWER than '..Said'. Prove '..Said' where nothing that the law and all that it calls make is longer than what came in: it says more and counts as full. Else prove '..UptoSaid'. A law counts once. -/
mutual
def uptoBulk {H : Type} : DataW H → Nat
  | .lit (.string bytes) => bytes.length + 1
  | .lit _ => 1
  | .nil => 1
  | .ptr d => uptoBulk d + 1
  | .slice elems spare => uptoBulkAll elems + uptoBulkAll spare + 1
  | .agg parts => uptoBulkAll parts + 1
  | .iface _ d => uptoBulk d + 1
  | .map entries => uptoBulkEntries entries + 1
  | .held _ => 1
def uptoBulkAll {H : Type} : List (DataW H) → Nat
  | [] => 0
  | d :: r => uptoBulk d + uptoBulkAll r
def uptoBulkEntries {H : Type} : List (Lit × DataW H) → Nat
  | [] => 0
  | x :: r => uptoBulkEntry x + uptoBulkEntries r
def uptoBulkEntry {H : Type} : Lit × DataW H → Nat
  | (.string bytes, d) => bytes.length + uptoBulk d + 1
  | (_, d) => uptoBulk d + 1
 end
def uptoSmall : (H : Type) → List (DataW H) → Bool := fun _ ds => decide (uptoBulkAll ds ≤ 1048576)
def OpenSpec.upto (s : _root_.Go.ChangeSpec) : _root_.Go.OpenSpec := { _root_.Go.OpenSpec.ofChange s with cond := some uptoSmall }

/-- 'hermitagelaw31.GatePlays', WHERE WHAT IT READS IS OF BULK AT MOST 1048576: true; the input reads as it did. -/
def gatePlaysUptoRow : OpenClaim := { program := "ytnhapfoebiniiaa", sum := "83e07b043845e0baf3088972bcd780f54f3b50b3a95982f6ebc3067131bb1aa8", func := "hermitage/hermitagelaw31.GatePlays", spec := "gatePlays", apart := false, narrowed := true }
def GatePlaysUptoSaid : Prop := gatePlaysUptoRow.holds Try.pinned (OpenSpec.upto gatePlaysSpec)

/-- 'hermitagelaw31.GateQuota', WHERE WHAT IT READS IS OF BULK AT MOST 1048576: true; the input reads as it did. -/
def gateQuotaUptoRow : OpenClaim := { program := "ytnhapfoebiniiaa", sum := "83e07b043845e0baf3088972bcd780f54f3b50b3a95982f6ebc3067131bb1aa8", func := "hermitage/hermitagelaw31.GateQuota", spec := "gateQuota", apart := false, narrowed := true }
def GateQuotaUptoSaid : Prop := gateQuotaUptoRow.holds Try.pinned (OpenSpec.upto gateQuotaSpec)

/-- 'hermitagelaw31.GateWho', WHERE WHAT IT READS IS OF BULK AT MOST 1048576: true; the input reads as it did. -/
def gateWhoUptoRow : OpenClaim := { program := "ytnhapfoebiniiaa", sum := "83e07b043845e0baf3088972bcd780f54f3b50b3a95982f6ebc3067131bb1aa8", func := "hermitage/hermitagelaw31.GateWho", spec := "gateWho", apart := false, narrowed := true }
def GateWhoUptoSaid : Prop := gateWhoUptoRow.holds Try.pinned (OpenSpec.upto gateWhoSpec)

/-- 'hermitagelaw31.GateBox', WHERE WHAT IT READS IS OF BULK AT MOST 1048576: true; the input reads as it did. -/
def gateBoxUptoRow : OpenClaim := { program := "ytnhapfoebiniiaa", sum := "83e07b043845e0baf3088972bcd780f54f3b50b3a95982f6ebc3067131bb1aa8", func := "hermitage/hermitagelaw31.GateBox", spec := "gateBox", apart := false, narrowed := true }
def GateBoxUptoSaid : Prop := gateBoxUptoRow.holds Try.pinned (OpenSpec.upto gateBoxSpec)

/-- 'hermitagelaw31.GateZero', WHERE WHAT IT READS IS OF BULK AT MOST 1048576: true; the input reads as it did. -/
def gateZeroUptoRow : OpenClaim := { program := "ytnhapfoebiniiaa", sum := "83e07b043845e0baf3088972bcd780f54f3b50b3a95982f6ebc3067131bb1aa8", func := "hermitage/hermitagelaw31.GateZero", spec := "gateZero", apart := false, narrowed := true }
def GateZeroUptoSaid : Prop := gateZeroUptoRow.holds Try.pinned (OpenSpec.upto gateZeroSpec)

end Rows
end Go.Proofs.Ytnhapfoebiniiaa
