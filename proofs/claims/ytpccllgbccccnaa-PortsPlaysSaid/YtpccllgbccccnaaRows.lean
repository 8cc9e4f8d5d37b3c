/-
  No cell of these rows narrows 'for every input' (looked for: loops, veiled, ifaces, maps, wideKeys, modest, calm, conditions, laid).
  DERIVED. THE GIVEN ROWS OF THIS SEAT. 4 by the template 'for every input the law returns true; each argument reads behind the call as it read before'; 0 by the template 'total and deterministic' (their statements: YtpccllgbccccnaaTotals.lean).
  GIVEN WITH THE SEED: the statements are not yours to turn. If you find one false, say at which input.
  Laid BY PROGRAM, IN A SANDBOX (cutbox-rows.mjs): the forced cells as the released guide's own fill.sh prints them over the translation f044567c2b743cd0… (all of the seat's roots in one cut). By AI agents, Wed Nov 11 2026. No macro, syntax, notation, axiom, sorry.
-/
import Derived.Test.YtpccllgbccccnaaChecked
import GoSem.Claim
import GoSem.ClaimJoined
import GoSem.ClaimMapViews
import Derived.JoinedTies
import Derived.KernelRfl
namespace Go.Proofs.Ytpccllgbccccnaa
/- THE CELL 'sum', in the pinned program and in every row, IS THE sha256 OF THE DUMP (.gsa) THAT YtpccllgbccccnaaProg.lean LOADS. Nothing in Lean hashes anything: it is a label: what it is worth is what the hold of that sum in a sandbox is worth. -/
noncomputable def Try.pinned : Pinned := { name := "ytpccllgbccccnaa", sum := "f044567c2b743cd0551f7e8e063d368deb9cf432f7242255631b6c019020a23a", checked := Try.checked }
namespace Rows
def none {H : Type} : Left H := { results := [], args := [] }

/-- 'hermitagelaw26.PortsZero': WHATEVER THE INPUT: true; the input reads as it did. -/
def portsZeroSpec : ChangeSpec := { name := "portsZero", fn := fun _ => fun
  | [d1, d2, d3] => { results := [.lit (.bool true)], args := [d1, d2, d3] }
  | _ => none }
def portsZeroRow : OpenClaim := { program := "ytpccllgbccccnaa", sum := "f044567c2b743cd0551f7e8e063d368deb9cf432f7242255631b6c019020a23a", func := "hermitage/hermitagelaw26.PortsZero", spec := "portsZero", apart := false }
def PortsZeroSaid : Prop := portsZeroRow.holds Try.pinned (OpenSpec.ofChange portsZeroSpec)

/-- ITS FALSE NEIGHBOUR: 'it returns false'. Refute it at one input. -/
def portsZeroWrong : ChangeSpec := { name := "portsZero", fn := fun _ => fun
  | [d1, d2, d3] => { results := [.lit (.bool false)], args := [d1, d2, d3] }
  | _ => none }
def PortsZeroWrongFalsely : Prop := portsZeroRow.holds Try.pinned (OpenSpec.ofChange portsZeroWrong)

/-- 'hermitagelaw26.PortsOrder': WHATEVER THE INPUT: true; the input reads as it did. -/
def portsOrderSpec : ChangeSpec := { name := "portsOrder", fn := fun _ => fun
  | [d1, d2, d3, d4] => { results := [.lit (.bool true)], args := [d1, d2, d3, d4] }
  | _ => none }
def portsOrderRow : OpenClaim := { program := "ytpccllgbccccnaa", sum := "f044567c2b743cd0551f7e8e063d368deb9cf432f7242255631b6c019020a23a", func := "hermitage/hermitagelaw26.PortsOrder", spec := "portsOrder", apart := false }
def PortsOrderSaid : Prop := portsOrderRow.holds Try.pinned (OpenSpec.ofChange portsOrderSpec)

/-- ITS FALSE NEIGHBOUR: 'it returns false'. Refute it at one input. -/
def portsOrderWrong : ChangeSpec := { name := "portsOrder", fn := fun _ => fun
  | [d1, d2, d3, d4] => { results := [.lit (.bool false)], args := [d1, d2, d3, d4] }
  | _ => none }
def PortsOrderWrongFalsely : Prop := portsOrderRow.holds Try.pinned (OpenSpec.ofChange portsOrderWrong)

/-- 'hermitagelaw26.PortsPlays': WHATEVER THE INPUT: true; the input reads as it did. -/
def portsPlaysSpec : ChangeSpec := { name := "portsPlays", fn := fun _ => fun
  | [d1, d2] => { results := [.lit (.bool true)], args := [d1, d2] }
  | _ => none }
def portsPlaysRow : OpenClaim := { program := "ytpccllgbccccnaa", sum := "f044567c2b743cd0551f7e8e063d368deb9cf432f7242255631b6c019020a23a", func := "hermitage/hermitagelaw26.PortsPlays", spec := "portsPlays", apart := false }
def PortsPlaysSaid : Prop := portsPlaysRow.holds Try.pinned (OpenSpec.ofChange portsPlaysSpec)

/-- ITS FALSE NEIGHBOUR: 'it returns false'. Refute it at one input. -/
def portsPlaysWrong : ChangeSpec := { name := "portsPlays", fn := fun _ => fun
  | [d1, d2] => { results := [.lit (.bool false)], args := [d1, d2] }
  | _ => none }
def PortsPlaysWrongFalsely : Prop := portsPlaysRow.holds Try.pinned (OpenSpec.ofChange portsPlaysWrong)

/-- 'hermitagelaw26.PortsFlows': WHATEVER THE INPUT: true; the input reads as it did. -/
def portsFlowsSpec : ChangeSpec := { name := "portsFlows", fn := fun _ => fun
  | [d1, d2, d3] => { results := [.lit (.bool true)], args := [d1, d2, d3] }
  | _ => none }
def portsFlowsRow : OpenClaim := { program := "ytpccllgbccccnaa", sum := "f044567c2b743cd0551f7e8e063d368deb9cf432f7242255631b6c019020a23a", func := "hermitage/hermitagelaw26.PortsFlows", spec := "portsFlows", apart := false }
def PortsFlowsSaid : Prop := portsFlowsRow.holds Try.pinned (OpenSpec.ofChange portsFlowsSpec)

/-- ITS FALSE NEIGHBOUR: 'it returns false'. Refute it at one input. -/
def portsFlowsWrong : ChangeSpec := { name := "portsFlows", fn := fun _ => fun
  | [d1, d2, d3] => { results := [.lit (.bool false)], args := [d1, d2, d3] }
  | _ => none }
def PortsFlowsWrongFalsely : Prop := portsFlowsRow.holds Try.pinned (OpenSpec.ofChange portsFlowsWrong)

/- THE SECOND FORM. 'bulk': how many values and letters a reading holds, each counted each time it is reached (what is shared counts as often as it is met; a slice's spare places count too). A statement '..UptoSaid' is the law's where the arguments, and the package variables that the reading takes, are together of bulk at most 1048576: NARROWER than '..Said'. Prove '..Said' where nothing that the law and all that it calls make is longer than what came in: it says more and counts as full. Else prove '..UptoSaid'. A law counts once. -/
mutual
def uptoBulk {H : Type} : DataW H → Nat
  | .lit (.string bytes) => bytes.length + 1
  | .lit _ => 1
  | .nil => 1
  | .ptr d => uptoBulk d + 1
  | .slice elems spare => uptoBulkAll elems + uptoBulkAll spare + 1
  | .agg parts => uptoBulkAll parts + 1
  | .iface _ d => uptoBulk d + 1
  | .map entries => uptoBulkEntries entries + 1
  | .held _ => 1
def uptoBulkAll {H : Type} : List (DataW H) → Nat
  | [] => 0
  | d :: r => uptoBulk d + uptoBulkAll r
def uptoBulkEntries {H : Type} : List (Lit × DataW H) → Nat
  | [] => 0
  | x :: r => uptoBulkEntry x + uptoBulkEntries r
def uptoBulkEntry {H : Type} : Lit × DataW H → Nat
  | (.string bytes, d) => bytes.length + uptoBulk d + 1
  | (_, d) => uptoBulk d + 1
 end
def uptoSmall : (H : Type) → List (DataW H) → Bool := fun _ ds => decide (uptoBulkAll ds ≤ 1048576)
def OpenSpec.upto (s : _root_.Go.ChangeSpec) : _root_.Go.OpenSpec := { _root_.Go.OpenSpec.ofChange s with cond := some uptoSmall }

/-- 'hermitagelaw26.PortsZero', WHERE WHAT IT READS IS OF BULK AT MOST 1048576: true; the input reads as it did. -/
def portsZeroUptoRow : OpenClaim := { program := "ytpccllgbccccnaa", sum := "f044567c2b743cd0551f7e8e063d368deb9cf432f7242255631b6c019020a23a", func := "hermitage/hermitagelaw26.PortsZero", spec := "portsZero", apart := false, narrowed := true }
def PortsZeroUptoSaid : Prop := portsZeroUptoRow.holds Try.pinned (OpenSpec.upto portsZeroSpec)

/-- 'hermitagelaw26.PortsOrder', WHERE WHAT IT READS IS OF BULK AT MOST 1048576: true; the input reads as it did. -/
def portsOrderUptoRow : OpenClaim := { program := "ytpccllgbccccnaa", sum := "f044567c2b743cd0551f7e8e063d368deb9cf432f7242255631b6c019020a23a", func := "hermitage/hermitagelaw26.PortsOrder", spec := "portsOrder", apart := false, narrowed := true }
def PortsOrderUptoSaid : Prop := portsOrderUptoRow.holds Try.pinned (OpenSpec.upto portsOrderSpec)

/-- 'hermitagelaw26.PortsPlays', WHERE WHAT IT READS IS OF BULK AT MOST 1048576: true; the input reads as it did. -/
def portsPlaysUptoRow : OpenClaim := { program := "ytpccllgbccccnaa", sum := "f044567c2b743cd0551f7e8e063d368deb9cf432f7242255631b6c019020a23a", func := "hermitage/hermitagelaw26.PortsPlays", spec := "portsPlays", apart := false, narrowed := true }
def PortsPlaysUptoSaid : Prop := portsPlaysUptoRow.holds Try.pinned (OpenSpec.upto portsPlaysSpec)

/-- 'hermitagelaw26.PortsFlows', WHERE WHAT IT READS IS OF BULK AT MOST 1048576: true; the input reads as it did. -/
def portsFlowsUptoRow : OpenClaim := { program := "ytpccllgbccccnaa", sum := "f044567c2b743cd0551f7e8e063d368deb9cf432f7242255631b6c019020a23a", func := "hermitage/hermitagelaw26.PortsFlows", spec := "portsFlows", apart := false, narrowed := true }
def PortsFlowsUptoSaid : Prop := portsFlowsUptoRow.holds Try.pinned (OpenSpec.upto portsFlowsSpec)

end Rows
end Go.Proofs.Ytpccllgbccccnaa
