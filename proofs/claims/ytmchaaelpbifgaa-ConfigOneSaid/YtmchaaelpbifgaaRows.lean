/-
  No cell of these rows narrows 'for every input' (looked for: loops, veiled, ifaces, maps, wideKeys, modest, calm, conditions, laid).
  DERIVED. THE GIVEN ROWS OF THIS SEAT. 4 by the template 'for every input the law returns true; each argument reads behind the call as it read before'; 0 by the template 'total and deterministic' (their statements: YtmchaaelpbifgaaTotals.lean).
  GIVEN WITH THE SEED: the statements are not yours to turn. If you find one false, say at which input.
  Laid BY PROGRAM, IN A SANDBOX (cutbox-rows.mjs): the forced cells as the released guide's own fill.sh prints them over the translation 3685eb4dfacffb0b… (all of the seat's roots in one cut). By AI agents, Wed Nov 11 2026. No macro, syntax, notation, axiom, sorry.
-/
import Derived.Test.YtmchaaelpbifgaaChecked
import GoSem.Claim
import GoSem.ClaimJoined
import GoSem.ClaimMapViews
import Derived.JoinedTies
import Derived.KernelRfl
namespace Go.Proofs.Ytmchaaelpbifgaa
/- THE CELL 'sum', in the pinned program and in every row, IS THE sha256 OF THE DUMP (.gsa) THAT YtmchaaelpbifgaaProg.lean LOADS. Nothing in Lean hashes anything: it is a label: what it is worth is what the hold of that sum in a sandbox is worth. -/
noncomputable def Try.pinned : Pinned := { name := "ytmchaaelpbifgaa", sum := "3685eb4dfacffb0b7d0dae7f9791301c33a67e36e4c9d12b0cd579eb5478d09e", checked := Try.checked }
namespace Rows
def none {H : Type} : Left H := { results := [], args := [] }

/-- 'hermitagelaw04.ConfigOne': WHATEVER THE INPUT: true; the input reads as it did. -/
def configOneSpec : ChangeSpec := { name := "configOne", fn := fun _ => fun
  | [d1, d2] => { results := [.lit (.bool true)], args := [d1, d2] }
  | _ => none }
def configOneRow : OpenClaim := { program := "ytmchaaelpbifgaa", sum := "3685eb4dfacffb0b7d0dae7f9791301c33a67e36e4c9d12b0cd579eb5478d09e", func := "hermitage/hermitagelaw04.ConfigOne", spec := "configOne", inPlace := ["slices.overlaps[hermitage/api.Run]"], unfollowed := true, recurses := true, apart := false }
def ConfigOneSaid : Prop := configOneRow.holds Try.pinned (OpenSpec.ofChange configOneSpec)

/-- ITS FALSE NEIGHBOUR: 'it returns false'. Refute it at one input. -/
def configOneWrong : ChangeSpec := { name := "configOne", fn := fun _ => fun
  | [d1, d2] => { results := [.lit (.bool false)], args := [d1, d2] }
  | _ => none }
def ConfigOneWrongFalsely : Prop := configOneRow.holds Try.pinned (OpenSpec.ofChange configOneWrong)

/-- 'hermitagelaw04.ConfigFlows': WHATEVER THE INPUT: true; the input reads as it did. -/
def configFlowsSpec : ChangeSpec := { name := "configFlows", fn := fun _ => fun
  | [d] => { results := [.lit (.bool true)], args := [d] }
  | _ => none }
def configFlowsRow : OpenClaim := { program := "ytmchaaelpbifgaa", sum := "3685eb4dfacffb0b7d0dae7f9791301c33a67e36e4c9d12b0cd579eb5478d09e", func := "hermitage/hermitagelaw04.ConfigFlows", spec := "configFlows", inPlace := ["slices.overlaps[hermitage/api.Run]"], unfollowed := true, recurses := true, apart := false }
def ConfigFlowsSaid : Prop := configFlowsRow.holds Try.pinned (OpenSpec.ofChange configFlowsSpec)

/-- ITS FALSE NEIGHBOUR: 'it returns false'. Refute it at one input. -/
def configFlowsWrong : ChangeSpec := { name := "configFlows", fn := fun _ => fun
  | [d] => { results := [.lit (.bool false)], args := [d] }
  | _ => none }
def ConfigFlowsWrongFalsely : Prop := configFlowsRow.holds Try.pinned (OpenSpec.ofChange configFlowsWrong)

/-- 'hermitagelaw04.ConfigApart': WHATEVER THE INPUT: true; the input reads as it did. -/
def configApartSpec : ChangeSpec := { name := "configApart", fn := fun _ => fun
  | [d] => { results := [.lit (.bool true)], args := [d] }
  | _ => none }
def configApartRow : OpenClaim := { program := "ytmchaaelpbifgaa", sum := "3685eb4dfacffb0b7d0dae7f9791301c33a67e36e4c9d12b0cd579eb5478d09e", func := "hermitage/hermitagelaw04.ConfigApart", spec := "configApart", inPlace := ["slices.overlaps[hermitage/api.Run]"], unfollowed := true, recurses := true, apart := false }
def ConfigApartSaid : Prop := configApartRow.holds Try.pinned (OpenSpec.ofChange configApartSpec)

/-- ITS FALSE NEIGHBOUR: 'it returns false'. Refute it at one input. -/
def configApartWrong : ChangeSpec := { name := "configApart", fn := fun _ => fun
  | [d] => { results := [.lit (.bool false)], args := [d] }
  | _ => none }
def ConfigApartWrongFalsely : Prop := configApartRow.holds Try.pinned (OpenSpec.ofChange configApartWrong)

/-- 'hermitagelaw04.ConfigPlays': WHATEVER THE INPUT: true; the input reads as it did. -/
def configPlaysSpec : ChangeSpec := { name := "configPlays", fn := fun _ => fun
  | [d1, d2] => { results := [.lit (.bool true)], args := [d1, d2] }
  | _ => none }
def configPlaysRow : OpenClaim := { program := "ytmchaaelpbifgaa", sum := "3685eb4dfacffb0b7d0dae7f9791301c33a67e36e4c9d12b0cd579eb5478d09e", func := "hermitage/hermitagelaw04.ConfigPlays", spec := "configPlays", inPlace := ["slices.overlaps[hermitage/api.Run]"], unfollowed := true, recurses := true, apart := false }
def ConfigPlaysSaid : Prop := configPlaysRow.holds Try.pinned (OpenSpec.ofChange configPlaysSpec)

/-- ITS FALSE NEIGHBOUR: 'it returns false'. Refute it at one input. -/
def configPlaysWrong : ChangeSpec := { name := "configPlays", fn := fun _ => fun
  | [d1, d2] => { results := [.lit (.bool false)], args := [d1, d2] }
  | _ => none }
def ConfigPlaysWrongFalsely : Prop := configPlaysRow.holds Try.pinned (OpenSpec.ofChange configPlaysWrong)

/- THE SECOND FORM. 'bulk': how many values and letters a reading holds, each counted each time it is reached (what is shared counts as often as it is met; a slice's spare places count too). A statement '..UptoSaid' is the law's where the arguments, and the package variables that the reading takes, are together of bulk at most 1048576: NARROWER than '..Said'. Prove '..Said' where nothing that the law and all that it calls make is longer than what came in: it says more and counts as full. Else prove '..UptoSaid'. A law counts once. -/
mutual
def uptoBulk {H : Type} : DataW H → Nat
  | .lit (.string bytes) => bytes.length + 1
  | .lit _ => 1
  | .nil => 1
  | .ptr d => uptoBulk d + 1
  | .slice elems spare => uptoBulkAll elems + uptoBulkAll spare + 1
  | .agg parts => uptoBulkAll parts + 1
  | .iface _ d => uptoBulk d + 1
  | .map entries => uptoBulkEntries entries + 1
  | .held _ => 1
def uptoBulkAll {H : Type} : List (DataW H) → Nat
  | [] => 0
  | d :: r => uptoBulk d + uptoBulkAll r
def uptoBulkEntries {H : Type} : List (Lit × DataW H) → Nat
  | [] => 0
  | x :: r => uptoBulkEntry x + uptoBulkEntries r
def uptoBulkEntry {H : Type} : Lit × DataW H → Nat
  | (.string bytes, d) => bytes.length + uptoBulk d + 1
  | (_, d) => uptoBulk d + 1
 end
def uptoSmall : (H : Type) → List (DataW H) → Bool := fun _ ds => decide (uptoBulkAll ds ≤ 1048576)
def OpenSpec.upto (s : _root_.Go.ChangeSpec) : _root_.Go.OpenSpec := { _root_.Go.OpenSpec.ofChange s with cond := some uptoSmall }

/-- 'hermitagelaw04.ConfigOne', WHERE WHAT IT READS IS OF BULK AT MOST 1048576: true; the input reads as it did. -/
def configOneUptoRow : OpenClaim := { program := "ytmchaaelpbifgaa", sum := "3685eb4dfacffb0b7d0dae7f9791301c33a67e36e4c9d12b0cd579eb5478d09e", func := "hermitage/hermitagelaw04.ConfigOne", spec := "configOne", inPlace := ["slices.overlaps[hermitage/api.Run]"], unfollowed := true, recurses := true, apart := false, narrowed := true }
def ConfigOneUptoSaid : Prop := configOneUptoRow.holds Try.pinned (OpenSpec.upto configOneSpec)

/-- 'hermitagelaw04.ConfigFlows', WHERE WHAT IT READS IS OF BULK AT MOST 1048576: true; the input reads as it did. -/
def configFlowsUptoRow : OpenClaim := { program := "ytmchaaelpbifgaa", sum := "3685eb4dfacffb0b7d0dae7f9791301c33a67e36e4c9d12b0cd579eb5478d09e", func := "hermitage/hermitagelaw04.ConfigFlows", spec := "configFlows", inPlace := ["slices.overlaps[hermitage/api.Run]"], unfollowed := true, recurses := true, apart := false, narrowed := true }
def ConfigFlowsUptoSaid : Prop := configFlowsUptoRow.holds Try.pinned (OpenSpec.upto configFlowsSpec)

/-- 'hermitagelaw04.ConfigApart', WHERE WHAT IT READS IS OF BULK AT MOST 1048576: true; the input reads as it did. -/
def configApartUptoRow : OpenClaim := { program := "ytmchaaelpbifgaa", sum := "3685eb4dfacffb0b7d0dae7f9791301c33a67e36e4c9d12b0cd579eb5478d09e", func := "hermitage/hermitagelaw04.ConfigApart", spec := "configApart", inPlace := ["slices.overlaps[hermitage/api.Run]"], unfollowed := true, recurses := true, apart := false, narrowed := true }
def ConfigApartUptoSaid : Prop := configApartUptoRow.holds Try.pinned (OpenSpec.upto configApartSpec)

/-- 'hermitagelaw04.ConfigPlays', WHERE WHAT IT READS IS OF BULK AT MOST 1048576: true; the input reads as it did. -/
def configPlaysUptoRow : OpenClaim := { program := "ytmchaaelpbifgaa", sum := "3685eb4dfacffb0b7d0dae7f9791301c33a67e36e4c9d12b0cd579eb5478d09e", func := "hermitage/hermitagelaw04.ConfigPlays", spec := "configPlays", inPlace := ["slices.overlaps[hermitage/api.Run]"], unfollowed := true, recurses := true, apart := false, narrowed := true }
def ConfigPlaysUptoSaid : Prop := configPlaysUptoRow.holds Try.pinned (OpenSpec.upto configPlaysSpec)

end Rows
end Go.Proofs.Ytmchaaelpbifgaa
