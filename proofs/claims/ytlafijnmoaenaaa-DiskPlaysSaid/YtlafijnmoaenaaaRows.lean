/-
  No cell of these rows narrows 'for every input' (looked for: loops, veiled, ifaces, maps, wideKeys, modest, calm, conditions, laid).
  DERIVED. THE GIVEN ROWS OF THIS SEAT. 4 by the template 'for every input the law returns true; each argument reads behind the call as it read before'; 0 by the template 'total and deterministic' (their statements: YtlafijnmoaenaaaTotals.lean).
  GIVEN WITH THE SEED: the statements are not yours to turn. If you find one false, say at which input.
  Laid BY PROGRAM, IN A SANDBOX (cutbox-rows.mjs): the forced cells as the released guide's own fill.sh prints them over the translation 4da271a8e2e87bff… (all of the seat's roots in one cut). By AI agents, Wed Nov 11 2026. No macro, syntax, notation, axiom, sorry.
-/
import Derived.Test.YtlafijnmoaenaaaChecked
import GoSem.Claim
import GoSem.ClaimJoined
import GoSem.ClaimMapViews
import Derived.JoinedTies
import Derived.KernelRfl
namespace Go.Proofs.Ytlafijnmoaenaaa
/- THE CELL 'sum', in the pinned program and in every row, IS THE sha256 OF THE DUMP (.gsa) THAT YtlafijnmoaenaaaProg.lean LOADS. Nothing in Lean hashes anything: it is a label: what it is worth is what the hold of that sum in a sandbox is worth. -/
noncomputable def Try.pinned : Pinned := { name := "ytlafijnmoaenaaa", sum := "4da271a8e2e87bff07648683a81ba716293f5fb5b20d635d277e12617bc3cfb2", checked := Try.checked }
namespace Rows
def none {H : Type} : Left H := { results := [], args := [] }

/-- 'hermitagelaw24.DiskZero': WHATEVER THE INPUT: true; the input reads as it did. -/
def diskZeroSpec : ChangeSpec := { name := "diskZero", fn := fun _ => fun
  | [d1, d2, d3] => { results := [.lit (.bool true)], args := [d1, d2, d3] }
  | _ => none }
def diskZeroRow : OpenClaim := { program := "ytlafijnmoaenaaa", sum := "4da271a8e2e87bff07648683a81ba716293f5fb5b20d635d277e12617bc3cfb2", func := "hermitage/hermitagelaw24.DiskZero", spec := "diskZero", unfollowed := true, recurses := true, apart := false }
def DiskZeroSaid : Prop := diskZeroRow.holds Try.pinned (OpenSpec.ofChange diskZeroSpec)

/-- ITS FALSE NEIGHBOUR: 'it returns false'. Refute it at one input. -/
def diskZeroWrong : ChangeSpec := { name := "diskZero", fn := fun _ => fun
  | [d1, d2, d3] => { results := [.lit (.bool false)], args := [d1, d2, d3] }
  | _ => none }
def DiskZeroWrongFalsely : Prop := diskZeroRow.holds Try.pinned (OpenSpec.ofChange diskZeroWrong)

/-- 'hermitagelaw24.DiskFlows': WHATEVER THE INPUT: true; the input reads as it did. -/
def diskFlowsSpec : ChangeSpec := { name := "diskFlows", fn := fun _ => fun
  | [d1, d2, d3, d4, d5] => { results := [.lit (.bool true)], args := [d1, d2, d3, d4, d5] }
  | _ => none }
def diskFlowsRow : OpenClaim := { program := "ytlafijnmoaenaaa", sum := "4da271a8e2e87bff07648683a81ba716293f5fb5b20d635d277e12617bc3cfb2", func := "hermitage/hermitagelaw24.DiskFlows", spec := "diskFlows", inPlace := ["slices.overlaps[hermitage/api.Run]"], unfollowed := true, recurses := true, apart := false }
def DiskFlowsSaid : Prop := diskFlowsRow.holds Try.pinned (OpenSpec.ofChange diskFlowsSpec)

/-- ITS FALSE NEIGHBOUR: 'it returns false'. Refute it at one input. -/
def diskFlowsWrong : ChangeSpec := { name := "diskFlows", fn := fun _ => fun
  | [d1, d2, d3, d4, d5] => { results := [.lit (.bool false)], args := [d1, d2, d3, d4, d5] }
  | _ => none }
def DiskFlowsWrongFalsely : Prop := diskFlowsRow.holds Try.pinned (OpenSpec.ofChange diskFlowsWrong)

/-- 'hermitagelaw24.DiskOne': WHATEVER THE INPUT: true; the input reads as it did. -/
def diskOneSpec : ChangeSpec := { name := "diskOne", fn := fun _ => fun
  | [d1, d2, d3, d4, d5] => { results := [.lit (.bool true)], args := [d1, d2, d3, d4, d5] }
  | _ => none }
def diskOneRow : OpenClaim := { program := "ytlafijnmoaenaaa", sum := "4da271a8e2e87bff07648683a81ba716293f5fb5b20d635d277e12617bc3cfb2", func := "hermitage/hermitagelaw24.DiskOne", spec := "diskOne", inPlace := ["slices.overlaps[hermitage/api.Run]"], unfollowed := true, recurses := true, apart := false }
def DiskOneSaid : Prop := diskOneRow.holds Try.pinned (OpenSpec.ofChange diskOneSpec)

/-- ITS FALSE NEIGHBOUR: 'it returns false'. Refute it at one input. -/
def diskOneWrong : ChangeSpec := { name := "diskOne", fn := fun _ => fun
  | [d1, d2, d3, d4, d5] => { results := [.lit (.bool false)], args := [d1, d2, d3, d4, d5] }
  | _ => none }
def DiskOneWrongFalsely : Prop := diskOneRow.holds Try.pinned (OpenSpec.ofChange diskOneWrong)

/-- 'hermitagelaw24.DiskPlays': WHATEVER THE INPUT: true; the input reads as it did. -/
def diskPlaysSpec : ChangeSpec := { name := "diskPlays", fn := fun _ => fun
  | [d1, d2] => { results := [.lit (.bool true)], args := [d1, d2] }
  | _ => none }
def diskPlaysRow : OpenClaim := { program := "ytlafijnmoaenaaa", sum := "4da271a8e2e87bff07648683a81ba716293f5fb5b20d635d277e12617bc3cfb2", func := "hermitage/hermitagelaw24.DiskPlays", spec := "diskPlays", inPlace := ["slices.overlaps[hermitage/api.Run]"], unfollowed := true, recurses := true, apart := false }
def DiskPlaysSaid : Prop := diskPlaysRow.holds Try.pinned (OpenSpec.ofChange diskPlaysSpec)

/-- ITS FALSE NEIGHBOUR: 'it returns false'. Refute it at one input. -/
def diskPlaysWrong : ChangeSpec := { name := "diskPlays", fn := fun _ => fun
  | [d1, d2] => { results := [.lit (.bool false)], args := [d1, d2] }
  | _ => none }
def DiskPlaysWrongFalsely : Prop := diskPlaysRow.holds Try.pinned (OpenSpec.ofChange diskPlaysWrong)

/- THE SECOND FORM. 'bulk': how many values and letters a reading holds, each counted each time it is reached (what is shared counts as often as it is met; a slice's spare places count too). A statement '..UptoSaid' is the law's where the arguments, and the package variables that the reading takes, are together of bulk at most 1048576: NARROWER than '..Said'. Prove '..Said' where nothing that the law and all that it calls make is longer than what came in: it says more and counts as full. Else prove '..UptoSaid'. A law counts once. -/
mutual
def uptoBulk {H : Type} : DataW H → Nat
  | .lit (.string bytes) => bytes.length + 1
  | .lit _ => 1
  | .nil => 1
  | .ptr d => uptoBulk d + 1
  | .slice elems spare => uptoBulkAll elems + uptoBulkAll spare + 1
  | .agg parts => uptoBulkAll parts + 1
  | .iface _ d => uptoBulk d + 1
  | .map entries => uptoBulkEntries entries + 1
  | .held _ => 1
def uptoBulkAll {H : Type} : List (DataW H) → Nat
  | [] => 0
  | d :: r => uptoBulk d + uptoBulkAll r
def uptoBulkEntries {H : Type} : List (Lit × DataW H) → Nat
  | [] => 0
  | x :: r => uptoBulkEntry x + uptoBulkEntries r
def uptoBulkEntry {H : Type} : Lit × DataW H → Nat
  | (.string bytes, d) => bytes.length + uptoBulk d + 1
  | (_, d) => uptoBulk d + 1
 end
def uptoSmall : (H : Type) → List (DataW H) → Bool := fun _ ds => decide (uptoBulkAll ds ≤ 1048576)
def OpenSpec.upto (s : _root_.Go.ChangeSpec) : _root_.Go.OpenSpec := { _root_.Go.OpenSpec.ofChange s with cond := some uptoSmall }

/-- 'hermitagelaw24.DiskZero', WHERE WHAT IT READS IS OF BULK AT MOST 1048576: true; the input reads as it did. -/
def diskZeroUptoRow : OpenClaim := { program := "ytlafijnmoaenaaa", sum := "4da271a8e2e87bff07648683a81ba716293f5fb5b20d635d277e12617bc3cfb2", func := "hermitage/hermitagelaw24.DiskZero", spec := "diskZero", unfollowed := true, recurses := true, apart := false, narrowed := true }
def DiskZeroUptoSaid : Prop := diskZeroUptoRow.holds Try.pinned (OpenSpec.upto diskZeroSpec)

/-- 'hermitagelaw24.DiskFlows', WHERE WHAT IT READS IS OF BULK AT MOST 1048576: true; the input reads as it did. -/
def diskFlowsUptoRow : OpenClaim := { program := "ytlafijnmoaenaaa", sum := "4da271a8e2e87bff07648683a81ba716293f5fb5b20d635d277e12617bc3cfb2", func := "hermitage/hermitagelaw24.DiskFlows", spec := "diskFlows", inPlace := ["slices.overlaps[hermitage/api.Run]"], unfollowed := true, recurses := true, apart := false, narrowed := true }
def DiskFlowsUptoSaid : Prop := diskFlowsUptoRow.holds Try.pinned (OpenSpec.upto diskFlowsSpec)

/-- 'hermitagelaw24.DiskOne', WHERE WHAT IT READS IS OF BULK AT MOST 1048576: true; the input reads as it did. -/
def diskOneUptoRow : OpenClaim := { program := "ytlafijnmoaenaaa", sum := "4da271a8e2e87bff07648683a81ba716293f5fb5b20d635d277e12617bc3cfb2", func := "hermitage/hermitagelaw24.DiskOne", spec := "diskOne", inPlace := ["slices.overlaps[hermitage/api.Run]"], unfollowed := true, recurses := true, apart := false, narrowed := true }
def DiskOneUptoSaid : Prop := diskOneUptoRow.holds Try.pinned (OpenSpec.upto diskOneSpec)

/-- 'hermitagelaw24.DiskPlays', WHERE WHAT IT READS IS OF BULK AT MOST 1048576: true; the input reads as it did. -/
def diskPlaysUptoRow : OpenClaim := { program := "ytlafijnmoaenaaa", sum := "4da271a8e2e87bff07648683a81ba716293f5fb5b20d635d277e12617bc3cfb2", func := "hermitage/hermitagelaw24.DiskPlays", spec := "diskPlays", inPlace := ["slices.overlaps[hermitage/api.Run]"], unfollowed := true, recurses := true, apart := false, narrowed := true }
def DiskPlaysUptoSaid : Prop := diskPlaysUptoRow.holds Try.pinned (OpenSpec.upto diskPlaysSpec)

end Rows
end Go.Proofs.Ytlafijnmoaenaaa
