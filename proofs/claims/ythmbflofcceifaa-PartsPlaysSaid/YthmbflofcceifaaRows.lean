/-
  No cell of these rows narrows 'for every input' (looked for: loops, veiled, ifaces, maps, wideKeys, modest, calm, conditions, laid).
  DERIVED. THE GIVEN ROWS OF THIS SEAT. 4 by the template 'for every input the law returns true; each argument reads behind the call as it read before'; 0 by the template 'total and deterministic' (their statements: YthmbflofcceifaaTotals.lean).
  GIVEN WITH THE SEED: the statements are not yours to turn. If you find one false, say at which input.
  Laid BY PROGRAM, IN A SANDBOX (cutbox-rows.mjs): the forced cells as the released guide's own fill.sh prints them over the translation 8848b12309f784aa… (all of the seat's roots in one cut). By AI agents, Wed Nov 11 2026. No macro, syntax, notation, axiom, sorry.
-/
import Derived.Test.YthmbflofcceifaaChecked
import GoSem.Claim
import GoSem.ClaimJoined
import GoSem.ClaimMapViews
import Derived.JoinedTies
import Derived.KernelRfl
namespace Go.Proofs.Ythmbflofcceifaa
/- THE CELL 'sum', in the pinned program and in every row, IS THE sha256 OF THE DUMP (.gsa) THAT YthmbflofcceifaaProg.lean LOADS. Nothing in Lean hashes anything: it is a label: what it is worth is what the hold of that sum in a sandbox is worth. -/
noncomputable def Try.pinned : Pinned := { name := "ythmbflofcceifaa", sum := "8848b12309f784aafa2559c9c63506823c232ed8b1efd3283384d9769b11a969", checked := Try.checked }
namespace Rows
def none {H : Type} : Left H := { results := [], args := [] }

/-- 'hermitagelaw03.PartsOnce': WHATEVER THE INPUT: true; the input reads as it did. -/
def partsOnceSpec : ChangeSpec := { name := "partsOnce", fn := fun _ => fun
  | [d1, d2, d3, d4] => { results := [.lit (.bool true)], args := [d1, d2, d3, d4] }
  | _ => none }
def partsOnceRow : OpenClaim := { program := "ythmbflofcceifaa", sum := "8848b12309f784aafa2559c9c63506823c232ed8b1efd3283384d9769b11a969", func := "hermitage/hermitagelaw03.PartsOnce", spec := "partsOnce", inPlace := ["slices.overlaps[hermitage/api.Run]"], unfollowed := true, recurses := true, apart := false }
def PartsOnceSaid : Prop := partsOnceRow.holds Try.pinned (OpenSpec.ofChange partsOnceSpec)

/-- ITS FALSE NEIGHBOUR: 'it returns false'. Refute it at one input. -/
def partsOnceWrong : ChangeSpec := { name := "partsOnce", fn := fun _ => fun
  | [d1, d2, d3, d4] => { results := [.lit (.bool false)], args := [d1, d2, d3, d4] }
  | _ => none }
def PartsOnceWrongFalsely : Prop := partsOnceRow.holds Try.pinned (OpenSpec.ofChange partsOnceWrong)

/-- 'hermitagelaw03.PartsAll': WHATEVER THE INPUT: true; the input reads as it did. -/
def partsAllSpec : ChangeSpec := { name := "partsAll", fn := fun _ => fun
  | [d1, d2, d3, d4] => { results := [.lit (.bool true)], args := [d1, d2, d3, d4] }
  | _ => none }
def partsAllRow : OpenClaim := { program := "ythmbflofcceifaa", sum := "8848b12309f784aafa2559c9c63506823c232ed8b1efd3283384d9769b11a969", func := "hermitage/hermitagelaw03.PartsAll", spec := "partsAll", inPlace := ["slices.overlaps[hermitage/api.Run]"], unfollowed := true, recurses := true, apart := false }
def PartsAllSaid : Prop := partsAllRow.holds Try.pinned (OpenSpec.ofChange partsAllSpec)

/-- ITS FALSE NEIGHBOUR: 'it returns false'. Refute it at one input. -/
def partsAllWrong : ChangeSpec := { name := "partsAll", fn := fun _ => fun
  | [d1, d2, d3, d4] => { results := [.lit (.bool false)], args := [d1, d2, d3, d4] }
  | _ => none }
def PartsAllWrongFalsely : Prop := partsAllRow.holds Try.pinned (OpenSpec.ofChange partsAllWrong)

/-- 'hermitagelaw03.PartsZero': WHATEVER THE INPUT: true; the input reads as it did. -/
def partsZeroSpec : ChangeSpec := { name := "partsZero", fn := fun _ => fun
  | [d1, d2, d3] => { results := [.lit (.bool true)], args := [d1, d2, d3] }
  | _ => none }
def partsZeroRow : OpenClaim := { program := "ythmbflofcceifaa", sum := "8848b12309f784aafa2559c9c63506823c232ed8b1efd3283384d9769b11a969", func := "hermitage/hermitagelaw03.PartsZero", spec := "partsZero", inPlace := ["slices.overlaps[hermitage/api.Run]"], unfollowed := true, recurses := true, apart := false }
def PartsZeroSaid : Prop := partsZeroRow.holds Try.pinned (OpenSpec.ofChange partsZeroSpec)

/-- ITS FALSE NEIGHBOUR: 'it returns false'. Refute it at one input. -/
def partsZeroWrong : ChangeSpec := { name := "partsZero", fn := fun _ => fun
  | [d1, d2, d3] => { results := [.lit (.bool false)], args := [d1, d2, d3] }
  | _ => none }
def PartsZeroWrongFalsely : Prop := partsZeroRow.holds Try.pinned (OpenSpec.ofChange partsZeroWrong)

/-- 'hermitagelaw03.PartsPlays': WHATEVER THE INPUT: true; the input reads as it did. -/
def partsPlaysSpec : ChangeSpec := { name := "partsPlays", fn := fun _ => fun
  | [d1, d2, d3, d4] => { results := [.lit (.bool true)], args := [d1, d2, d3, d4] }
  | _ => none }
def partsPlaysRow : OpenClaim := { program := "ythmbflofcceifaa", sum := "8848b12309f784aafa2559c9c63506823c232ed8b1efd3283384d9769b11a969", func := "hermitage/hermitagelaw03.PartsPlays", spec := "partsPlays", inPlace := ["slices.overlaps[hermitage/api.Run]"], unfollowed := true, recurses := true, apart := false }
def PartsPlaysSaid : Prop := partsPlaysRow.holds Try.pinned (OpenSpec.ofChange partsPlaysSpec)

/-- ITS FALSE NEIGHBOUR: 'it returns false'. Refute it at one input. -/
def partsPlaysWrong : ChangeSpec := { name := "partsPlays", fn := fun _ => fun
  | [d1, d2, d3, d4] => { results := [.lit (.bool false)], args := [d1, d2, d3, d4] }
  | _ => none }
def PartsPlaysWrongFalsely : Prop := partsPlaysRow.holds Try.pinned (OpenSpec.ofChange partsPlaysWrong)

/- THE SECOND FORM. 'bulk': how many values and letters a reading holds, each counted each time it is reached (what is shared counts as often as it is met; a slice's spare places count too). A statement '..UptoSaid' is the law's where the arguments, and the package variables that the reading takes, are together of bulk at most 1048576: NARROWER than '..Said'. Prove '..Said' where nothing that the law and all that it calls make is longer than what came in: it says more and counts as full. Else prove '..UptoSaid'. A law counts once. -/
mutual
def uptoBulk {H : Type} : DataW H → Nat
  | .lit (.string bytes) => bytes.length + 1
  | .lit _ => 1
  | .nil => 1
  | .ptr d => uptoBulk d + 1
  | .slice elems spare => uptoBulkAll elems + uptoBulkAll spare + 1
  | .agg parts => uptoBulkAll parts + 1
  | .iface _ d => uptoBulk d + 1
  | .map entries => uptoBulkEntries entries + 1
  | .held _ => 1
def uptoBulkAll {H : Type} : List (DataW H) → Nat
  | [] => 0
  | d :: r => uptoBulk d + uptoBulkAll r
def uptoBulkEntries {H : Type} : List (Lit × DataW H) → Nat
  | [] => 0
  | x :: r => uptoBulkEntry x + uptoBulkEntries r
def uptoBulkEntry {H : Type} : Lit × DataW H → Nat
  | (.string bytes, d) => bytes.length + uptoBulk d + 1
  | (_, d) => uptoBulk d + 1
 end
def uptoSmall : (H : Type) → List (DataW H) → Bool := fun _ ds => decide (uptoBulkAll ds ≤ 1048576)
def OpenSpec.upto (s : _root_.Go.ChangeSpec) : _root_.Go.OpenSpec := { _root_.Go.OpenSpec.ofChange s with cond := some uptoSmall }

/-- 'hermitagelaw03.PartsOnce', WHERE WHAT IT READS IS OF BULK AT MOST 1048576: true; the input reads as it did. -/
def partsOnceUptoRow : OpenClaim := { program := "ythmbflofcceifaa", sum := "8848b12309f784aafa2559c9c63506823c232ed8b1efd3283384d9769b11a969", func := "hermitage/hermitagelaw03.PartsOnce", spec := "partsOnce", inPlace := ["slices.overlaps[hermitage/api.Run]"], unfollowed := true, recurses := true, apart := false, narrowed := true }
def PartsOnceUptoSaid : Prop := partsOnceUptoRow.holds Try.pinned (OpenSpec.upto partsOnceSpec)

/-- 'hermitagelaw03.PartsAll', WHERE WHAT IT READS IS OF BULK AT MOST 1048576: true; the input reads as it did. -/
def partsAllUptoRow : OpenClaim := { program := "ythmbflofcceifaa", sum := "8848b12309f784aafa2559c9c63506823c232ed8b1efd3283384d9769b11a969", func := "hermitage/hermitagelaw03.PartsAll", spec := "partsAll", inPlace := ["slices.overlaps[hermitage/api.Run]"], unfollowed := true, recurses := true, apart := false, narrowed := true }
def PartsAllUptoSaid : Prop := partsAllUptoRow.holds Try.pinned (OpenSpec.upto partsAllSpec)

/-- 'hermitagelaw03.PartsZero', WHERE WHAT IT READS IS OF BULK AT MOST 1048576: true; the input reads as it did. -/
def partsZeroUptoRow : OpenClaim := { program := "ythmbflofcceifaa", sum := "8848b12309f784aafa2559c9c63506823c232ed8b1efd3283384d9769b11a969", func := "hermitage/hermitagelaw03.PartsZero", spec := "partsZero", inPlace := ["slices.overlaps[hermitage/api.Run]"], unfollowed := true, recurses := true, apart := false, narrowed := true }
def PartsZeroUptoSaid : Prop := partsZeroUptoRow.holds Try.pinned (OpenSpec.upto partsZeroSpec)

/-- 'hermitagelaw03.PartsPlays', WHERE WHAT IT READS IS OF BULK AT MOST 1048576: true; the input reads as it did. -/
def partsPlaysUptoRow : OpenClaim := { program := "ythmbflofcceifaa", sum := "8848b12309f784aafa2559c9c63506823c232ed8b1efd3283384d9769b11a969", func := "hermitage/hermitagelaw03.PartsPlays", spec := "partsPlays", inPlace := ["slices.overlaps[hermitage/api.Run]"], unfollowed := true, recurses := true, apart := false, narrowed := true }
def PartsPlaysUptoSaid : Prop := partsPlaysUptoRow.holds Try.pinned (OpenSpec.upto partsPlaysSpec)

end Rows
end Go.Proofs.Ythmbflofcceifaa
