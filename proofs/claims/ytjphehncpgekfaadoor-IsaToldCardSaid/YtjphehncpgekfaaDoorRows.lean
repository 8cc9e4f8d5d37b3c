/-
  NARROWER THAN 'FOR EVERY INPUT', by the rows' own cells (each row's printed sentence says how): IsaBack: laid · IsaOps: laid · IsaPlays: laid · IsaTold: laid.
  DERIVED. THE GIVEN ROWS OF THIS SEAT. 4 by the template 'for every input the law returns true; each argument reads behind the call as it read before'; 0 by the template 'total and deterministic' (their statements: YtjphehncpgekfaaDoorTotals.lean).
  GIVEN WITH THE SEED: the statements are not yours to turn. If you find one false, say at which input.
  Laid BY PROGRAM, IN A SANDBOX (cutbox-rows.mjs): the forced cells as the released guide's own fill.sh prints them over the translation 52908d73bd9265cf… (all of the seat's roots in one cut). By AI agents, Wed Nov 11 2026. No macro, syntax, notation, axiom, sorry.
-/
import Derived.Test.YtjphehncpgekfaaDoorChecked
import GoSem.Claim
import GoSem.ClaimJoined
import GoSem.ClaimMapViews
import Derived.JoinedTies
import Derived.KernelRfl
namespace Go.Proofs.YtjphehncpgekfaaDoor
/- THE CELL 'sum', in the pinned program and in every row, IS THE sha256 OF THE DUMP (.gsa) THAT YtjphehncpgekfaaDoorProg.lean LOADS. Nothing in Lean hashes anything: it is a label: what it is worth is what the hold of that sum in a sandbox is worth. -/
noncomputable def Tryd.pinned : Pinned := { name := "ytjphehncpgekfaadoor", sum := "52908d73bd9265cfa612d155a2ddfa1bee60dbca95f576fa7d3297b4b3a932b2", checked := Tryd.checked }
namespace Rows
def none {H : Type} : Left H := { results := [], args := [] }

/- WHAT THE LISTED PACKAGE-LEVEL VARIABLES READ AS WHEN THE CALL BEGINS. Each datum BY PROGRAM (the guide's laid-datum.mjs) off the statement by which the dump's own 'gosem.cut.vars' lays the variable. In a bare row this is a premise. The card (YtjphehncpgekfaaDoorCards.lean) ties it to the program's text. -/
def laid_hermitage_isa_has {H : Type} : DataW H := .agg [.lit (.int .i64 0), .lit (.int .i64 7), .lit (.int .i64 7), .lit (.int .i64 7), .lit (.int .i64 7), .lit (.int .i64 7), .lit (.int .i64 7), .lit (.int .i64 7), .lit (.int .i64 7), .lit (.int .i64 7), .lit (.int .i64 7), .lit (.int .i64 7), .lit (.int .i64 7), .lit (.int .i64 7), .lit (.int .i64 11), .lit (.int .i64 11), .lit (.int .i64 11), .lit (.int .i64 11), .lit (.int .i64 11), .lit (.int .i64 11), .lit (.int .i64 11), .lit (.int .i64 11), .lit (.int .i64 9), .lit (.int .i64 11), .lit (.int .i64 11), .lit (.int .i64 11), .lit (.int .i64 14), .lit (.int .i64 14), .lit (.int .i64 14), .lit (.int .i64 14), .lit (.int .i64 14), .lit (.int .i64 14), .lit (.int .i64 9), .lit (.int .i64 11), .lit (.int .i64 0), .lit (.int .i64 0), .lit (.int .i64 0), .lit (.int .i64 9), .lit (.int .i64 10), .lit (.int .i64 0), .lit (.int .i64 0), .lit (.int .i64 0)]

/-- 'hermitagelaw09.IsaBack': WHATEVER THE INPUT: true; the input reads as it did. -/
def isaBackSpec : ChangeSpec := { name := "isaBack", fn := fun _ => fun
  | [d1, d2] => { results := [.lit (.bool true)], args := [d1, d2] }
  | _ => none }
def isaBackRow : OpenClaim := { program := "ytjphehncpgekfaadoor", sum := "52908d73bd9265cfa612d155a2ddfa1bee60dbca95f576fa7d3297b4b3a932b2", func := "hermitage/hermitagelaw09.IsaBack", spec := "isaBack", named := ["hermitage/isa.has"], apart := false, laid := [("hermitage/isa.has", laid_hermitage_isa_has)] }
def IsaBackSaid : Prop := isaBackRow.holds Tryd.pinned (OpenSpec.ofChange isaBackSpec)

/-- ITS FALSE NEIGHBOUR: 'it returns false'. Refute it at one input. -/
def isaBackWrong : ChangeSpec := { name := "isaBack", fn := fun _ => fun
  | [d1, d2] => { results := [.lit (.bool false)], args := [d1, d2] }
  | _ => none }
def IsaBackWrongFalsely : Prop := isaBackRow.holds Tryd.pinned (OpenSpec.ofChange isaBackWrong)

/-- 'hermitagelaw09.IsaOps': WHATEVER THE INPUT: true; the input reads as it did. -/
def isaOpsSpec : ChangeSpec := { name := "isaOps", fn := fun _ => fun
  | [d1, d2, d3] => { results := [.lit (.bool true)], args := [d1, d2, d3] }
  | _ => none }
def isaOpsRow : OpenClaim := { program := "ytjphehncpgekfaadoor", sum := "52908d73bd9265cfa612d155a2ddfa1bee60dbca95f576fa7d3297b4b3a932b2", func := "hermitage/hermitagelaw09.IsaOps", spec := "isaOps", named := ["hermitage/isa.has"], apart := false, laid := [("hermitage/isa.has", laid_hermitage_isa_has)] }
def IsaOpsSaid : Prop := isaOpsRow.holds Tryd.pinned (OpenSpec.ofChange isaOpsSpec)

/-- ITS FALSE NEIGHBOUR: 'it returns false'. Refute it at one input. -/
def isaOpsWrong : ChangeSpec := { name := "isaOps", fn := fun _ => fun
  | [d1, d2, d3] => { results := [.lit (.bool false)], args := [d1, d2, d3] }
  | _ => none }
def IsaOpsWrongFalsely : Prop := isaOpsRow.holds Tryd.pinned (OpenSpec.ofChange isaOpsWrong)

/-- 'hermitagelaw09.IsaPlays': WHATEVER THE INPUT: true; the input reads as it did. -/
def isaPlaysSpec : ChangeSpec := { name := "isaPlays", fn := fun _ => fun
  | [d1, d2] => { results := [.lit (.bool true)], args := [d1, d2] }
  | _ => none }
def isaPlaysRow : OpenClaim := { program := "ytjphehncpgekfaadoor", sum := "52908d73bd9265cfa612d155a2ddfa1bee60dbca95f576fa7d3297b4b3a932b2", func := "hermitage/hermitagelaw09.IsaPlays", spec := "isaPlays", named := ["hermitage/isa.has"], apart := false, laid := [("hermitage/isa.has", laid_hermitage_isa_has)] }
def IsaPlaysSaid : Prop := isaPlaysRow.holds Tryd.pinned (OpenSpec.ofChange isaPlaysSpec)

/-- ITS FALSE NEIGHBOUR: 'it returns false'. Refute it at one input. -/
def isaPlaysWrong : ChangeSpec := { name := "isaPlays", fn := fun _ => fun
  | [d1, d2] => { results := [.lit (.bool false)], args := [d1, d2] }
  | _ => none }
def IsaPlaysWrongFalsely : Prop := isaPlaysRow.holds Tryd.pinned (OpenSpec.ofChange isaPlaysWrong)

/-- 'hermitagelaw09.IsaTold': WHATEVER THE INPUT: true; the input reads as it did. -/
def isaToldSpec : ChangeSpec := { name := "isaTold", fn := fun _ => fun
  | [d1, d2] => { results := [.lit (.bool true)], args := [d1, d2] }
  | _ => none }
def isaToldRow : OpenClaim := { program := "ytjphehncpgekfaadoor", sum := "52908d73bd9265cfa612d155a2ddfa1bee60dbca95f576fa7d3297b4b3a932b2", func := "hermitage/hermitagelaw09.IsaTold", spec := "isaTold", named := ["hermitage/isa.has"], apart := false, laid := [("hermitage/isa.has", laid_hermitage_isa_has)] }
def IsaToldSaid : Prop := isaToldRow.holds Tryd.pinned (OpenSpec.ofChange isaToldSpec)

/-- ITS FALSE NEIGHBOUR: 'it returns false'. Refute it at one input. -/
def isaToldWrong : ChangeSpec := { name := "isaTold", fn := fun _ => fun
  | [d1, d2] => { results := [.lit (.bool false)], args := [d1, d2] }
  | _ => none }
def IsaToldWrongFalsely : Prop := isaToldRow.holds Tryd.pinned (OpenSpec.ofChange isaToldWrong)

/- THE SECOND FORM. 'bulk': how many values and letters a reading holds, each counted each time it is reached (what is shared counts as often as it is met; a slice's spare places count too). A statement '..UptoSaid' is the law's where the arguments, and the package variables that the reading takes, are together of bulk at most 1048576: NARROWER than '..Said'. Prove '..Said' where nothing that the law and all that it calls make is longer than what came in: it says more and counts as full. Else prove '..UptoSaid'. A law counts once. -/
mutual
def uptoBulk {H : Type} : DataW H → Nat
  | .lit (.string bytes) => bytes.length + 1
  | .lit _ => 1
  | .nil => 1
  | .ptr d => uptoBulk d + 1
  | .slice elems spare => uptoBulkAll elems + uptoBulkAll spare + 1
  | .agg parts => uptoBulkAll parts + 1
  | .iface _ d => uptoBulk d + 1
  | .map entries => uptoBulkEntries entries + 1
  | .held _ => 1
def uptoBulkAll {H : Type} : List (DataW H) → Nat
  | [] => 0
  | d :: r => uptoBulk d + uptoBulkAll r
def uptoBulkEntries {H : Type} : List (Lit × DataW H) → Nat
  | [] => 0
  | x :: r => uptoBulkEntry x + uptoBulkEntries r
def uptoBulkEntry {H : Type} : Lit × DataW H → Nat
  | (.string bytes, d) => bytes.length + uptoBulk d + 1
  | (_, d) => uptoBulk d + 1
 end
def uptoSmall : (H : Type) → List (DataW H) → Bool := fun _ ds => decide (uptoBulkAll ds ≤ 1048576)
def OpenSpec.upto (s : _root_.Go.ChangeSpec) : _root_.Go.OpenSpec := { _root_.Go.OpenSpec.ofChange s with cond := some uptoSmall }

/-- 'hermitagelaw09.IsaBack', WHERE WHAT IT READS IS OF BULK AT MOST 1048576: true; the input reads as it did. -/
def isaBackUptoRow : OpenClaim := { program := "ytjphehncpgekfaadoor", sum := "52908d73bd9265cfa612d155a2ddfa1bee60dbca95f576fa7d3297b4b3a932b2", func := "hermitage/hermitagelaw09.IsaBack", spec := "isaBack", named := ["hermitage/isa.has"], apart := false, laid := [("hermitage/isa.has", laid_hermitage_isa_has)], narrowed := true }
def IsaBackUptoSaid : Prop := isaBackUptoRow.holds Tryd.pinned (OpenSpec.upto isaBackSpec)

/-- 'hermitagelaw09.IsaOps', WHERE WHAT IT READS IS OF BULK AT MOST 1048576: true; the input reads as it did. -/
def isaOpsUptoRow : OpenClaim := { program := "ytjphehncpgekfaadoor", sum := "52908d73bd9265cfa612d155a2ddfa1bee60dbca95f576fa7d3297b4b3a932b2", func := "hermitage/hermitagelaw09.IsaOps", spec := "isaOps", named := ["hermitage/isa.has"], apart := false, laid := [("hermitage/isa.has", laid_hermitage_isa_has)], narrowed := true }
def IsaOpsUptoSaid : Prop := isaOpsUptoRow.holds Tryd.pinned (OpenSpec.upto isaOpsSpec)

/-- 'hermitagelaw09.IsaPlays', WHERE WHAT IT READS IS OF BULK AT MOST 1048576: true; the input reads as it did. -/
def isaPlaysUptoRow : OpenClaim := { program := "ytjphehncpgekfaadoor", sum := "52908d73bd9265cfa612d155a2ddfa1bee60dbca95f576fa7d3297b4b3a932b2", func := "hermitage/hermitagelaw09.IsaPlays", spec := "isaPlays", named := ["hermitage/isa.has"], apart := false, laid := [("hermitage/isa.has", laid_hermitage_isa_has)], narrowed := true }
def IsaPlaysUptoSaid : Prop := isaPlaysUptoRow.holds Tryd.pinned (OpenSpec.upto isaPlaysSpec)

/-- 'hermitagelaw09.IsaTold', WHERE WHAT IT READS IS OF BULK AT MOST 1048576: true; the input reads as it did. -/
def isaToldUptoRow : OpenClaim := { program := "ytjphehncpgekfaadoor", sum := "52908d73bd9265cfa612d155a2ddfa1bee60dbca95f576fa7d3297b4b3a932b2", func := "hermitage/hermitagelaw09.IsaTold", spec := "isaTold", named := ["hermitage/isa.has"], apart := false, laid := [("hermitage/isa.has", laid_hermitage_isa_has)], narrowed := true }
def IsaToldUptoSaid : Prop := isaToldUptoRow.holds Tryd.pinned (OpenSpec.upto isaToldSpec)

end Rows
end Go.Proofs.YtjphehncpgekfaaDoor
