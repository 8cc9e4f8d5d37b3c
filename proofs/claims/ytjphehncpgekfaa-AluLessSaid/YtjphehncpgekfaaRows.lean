/-
  No cell of these rows narrows 'for every input' (looked for: loops, veiled, ifaces, maps, wideKeys, modest, calm, conditions, laid).
  DERIVED. THE GIVEN ROWS OF THIS SEAT. 13 by the template 'for every input the law returns true; each argument reads behind the call as it read before'; 0 by the template 'total and deterministic' (their statements: YtjphehncpgekfaaTotals.lean).
  GIVEN WITH THE SEED: the statements are not yours to turn. If you find one false, say at which input.
  Laid BY PROGRAM, IN A SANDBOX (cutbox-rows.mjs): the forced cells as the released guide's own fill.sh prints them over the translation 998ecf603e2cb28e… (all of the seat's roots in one cut). By AI agents, Wed Nov 11 2026. No macro, syntax, notation, axiom, sorry.
-/
import Derived.Test.YtjphehncpgekfaaChecked
import GoSem.Claim
import GoSem.ClaimJoined
import GoSem.ClaimMapViews
import Derived.JoinedTies
import Derived.KernelRfl
namespace Go.Proofs.Ytjphehncpgekfaa
/- THE CELL 'sum', in the pinned program and in every row, IS THE sha256 OF THE DUMP (.gsa) THAT YtjphehncpgekfaaProg.lean LOADS. Nothing in Lean hashes anything: it is a label: what it is worth is what the hold of that sum in a sandbox is worth. -/
noncomputable def Try.pinned : Pinned := { name := "ytjphehncpgekfaa", sum := "998ecf603e2cb28e3774b0ca4860ed226e947f6f46350ba720e19dd73a8c7996", checked := Try.checked }
namespace Rows
def none {H : Type} : Left H := { results := [], args := [] }

/-- 'hermitagelaw01.LabelOrder': WHATEVER THE INPUT: true; the input reads as it did. -/
def labelOrderSpec : ChangeSpec := { name := "labelOrder", fn := fun _ => fun
  | [d1, d2, d3] => { results := [.lit (.bool true)], args := [d1, d2, d3] }
  | _ => none }
def labelOrderRow : OpenClaim := { program := "ytjphehncpgekfaa", sum := "998ecf603e2cb28e3774b0ca4860ed226e947f6f46350ba720e19dd73a8c7996", func := "hermitage/hermitagelaw01.LabelOrder", spec := "labelOrder", apart := false }
def LabelOrderSaid : Prop := labelOrderRow.holds Try.pinned (OpenSpec.ofChange labelOrderSpec)

/-- ITS FALSE NEIGHBOUR: 'it returns false'. Refute it at one input. -/
def labelOrderWrong : ChangeSpec := { name := "labelOrder", fn := fun _ => fun
  | [d1, d2, d3] => { results := [.lit (.bool false)], args := [d1, d2, d3] }
  | _ => none }
def LabelOrderWrongFalsely : Prop := labelOrderRow.holds Try.pinned (OpenSpec.ofChange labelOrderWrong)

/-- 'hermitagelaw11.RegsOne': WHATEVER THE INPUT: true; the input reads as it did. -/
def regsOneSpec : ChangeSpec := { name := "regsOne", fn := fun _ => fun
  | [d1, d2] => { results := [.lit (.bool true)], args := [d1, d2] }
  | _ => none }
def regsOneRow : OpenClaim := { program := "ytjphehncpgekfaa", sum := "998ecf603e2cb28e3774b0ca4860ed226e947f6f46350ba720e19dd73a8c7996", func := "hermitage/hermitagelaw11.RegsOne", spec := "regsOne", apart := false }
def RegsOneSaid : Prop := regsOneRow.holds Try.pinned (OpenSpec.ofChange regsOneSpec)

/-- ITS FALSE NEIGHBOUR: 'it returns false'. Refute it at one input. -/
def regsOneWrong : ChangeSpec := { name := "regsOne", fn := fun _ => fun
  | [d1, d2] => { results := [.lit (.bool false)], args := [d1, d2] }
  | _ => none }
def RegsOneWrongFalsely : Prop := regsOneRow.holds Try.pinned (OpenSpec.ofChange regsOneWrong)

/-- 'hermitagelaw01.LabelTexts': WHATEVER THE INPUT: true; the input reads as it did. -/
def labelTextsSpec : ChangeSpec := { name := "labelTexts", fn := fun _ => fun
  | [d1, d2] => { results := [.lit (.bool true)], args := [d1, d2] }
  | _ => none }
def labelTextsRow : OpenClaim := { program := "ytjphehncpgekfaa", sum := "998ecf603e2cb28e3774b0ca4860ed226e947f6f46350ba720e19dd73a8c7996", func := "hermitage/hermitagelaw01.LabelTexts", spec := "labelTexts", apart := false }
def LabelTextsSaid : Prop := labelTextsRow.holds Try.pinned (OpenSpec.ofChange labelTextsSpec)

/-- ITS FALSE NEIGHBOUR: 'it returns false'. Refute it at one input. -/
def labelTextsWrong : ChangeSpec := { name := "labelTexts", fn := fun _ => fun
  | [d1, d2] => { results := [.lit (.bool false)], args := [d1, d2] }
  | _ => none }
def LabelTextsWrongFalsely : Prop := labelTextsRow.holds Try.pinned (OpenSpec.ofChange labelTextsWrong)

/-- 'hermitagelaw01.LabelBack': WHATEVER THE INPUT: true; the input reads as it did. -/
def labelBackSpec : ChangeSpec := { name := "labelBack", fn := fun _ => fun
  | [d1, d2] => { results := [.lit (.bool true)], args := [d1, d2] }
  | _ => none }
def labelBackRow : OpenClaim := { program := "ytjphehncpgekfaa", sum := "998ecf603e2cb28e3774b0ca4860ed226e947f6f46350ba720e19dd73a8c7996", func := "hermitage/hermitagelaw01.LabelBack", spec := "labelBack", apart := false }
def LabelBackSaid : Prop := labelBackRow.holds Try.pinned (OpenSpec.ofChange labelBackSpec)

/-- ITS FALSE NEIGHBOUR: 'it returns false'. Refute it at one input. -/
def labelBackWrong : ChangeSpec := { name := "labelBack", fn := fun _ => fun
  | [d1, d2] => { results := [.lit (.bool false)], args := [d1, d2] }
  | _ => none }
def LabelBackWrongFalsely : Prop := labelBackRow.holds Try.pinned (OpenSpec.ofChange labelBackWrong)

/-- 'hermitagelaw34.TraceZero': WHATEVER THE INPUT: true; the input reads as it did. -/
def traceZeroSpec : ChangeSpec := { name := "traceZero", fn := fun _ => fun
  | [d1, d2] => { results := [.lit (.bool true)], args := [d1, d2] }
  | _ => none }
def traceZeroRow : OpenClaim := { program := "ytjphehncpgekfaa", sum := "998ecf603e2cb28e3774b0ca4860ed226e947f6f46350ba720e19dd73a8c7996", func := "hermitage/hermitagelaw34.TraceZero", spec := "traceZero", apart := false }
def TraceZeroSaid : Prop := traceZeroRow.holds Try.pinned (OpenSpec.ofChange traceZeroSpec)

/-- ITS FALSE NEIGHBOUR: 'it returns false'. Refute it at one input. -/
def traceZeroWrong : ChangeSpec := { name := "traceZero", fn := fun _ => fun
  | [d1, d2] => { results := [.lit (.bool false)], args := [d1, d2] }
  | _ => none }
def TraceZeroWrongFalsely : Prop := traceZeroRow.holds Try.pinned (OpenSpec.ofChange traceZeroWrong)

/-- 'hermitagelaw01.LabelLeast': WHATEVER THE INPUT: true; the input reads as it did. -/
def labelLeastSpec : ChangeSpec := { name := "labelLeast", fn := fun _ => fun
  | [d1, d2, d3] => { results := [.lit (.bool true)], args := [d1, d2, d3] }
  | _ => none }
def labelLeastRow : OpenClaim := { program := "ytjphehncpgekfaa", sum := "998ecf603e2cb28e3774b0ca4860ed226e947f6f46350ba720e19dd73a8c7996", func := "hermitage/hermitagelaw01.LabelLeast", spec := "labelLeast", unfollowed := true, recurses := true, apart := false }
def LabelLeastSaid : Prop := labelLeastRow.holds Try.pinned (OpenSpec.ofChange labelLeastSpec)

/-- ITS FALSE NEIGHBOUR: 'it returns false'. Refute it at one input. -/
def labelLeastWrong : ChangeSpec := { name := "labelLeast", fn := fun _ => fun
  | [d1, d2, d3] => { results := [.lit (.bool false)], args := [d1, d2, d3] }
  | _ => none }
def LabelLeastWrongFalsely : Prop := labelLeastRow.holds Try.pinned (OpenSpec.ofChange labelLeastWrong)

/-- 'hermitagelaw11.RegsGone': WHATEVER THE INPUT: true; the input reads as it did. -/
def regsGoneSpec : ChangeSpec := { name := "regsGone", fn := fun _ => fun
  | [d1, d2, d3] => { results := [.lit (.bool true)], args := [d1, d2, d3] }
  | _ => none }
def regsGoneRow : OpenClaim := { program := "ytjphehncpgekfaa", sum := "998ecf603e2cb28e3774b0ca4860ed226e947f6f46350ba720e19dd73a8c7996", func := "hermitage/hermitagelaw11.RegsGone", spec := "regsGone", apart := false }
def RegsGoneSaid : Prop := regsGoneRow.holds Try.pinned (OpenSpec.ofChange regsGoneSpec)

/-- ITS FALSE NEIGHBOUR: 'it returns false'. Refute it at one input. -/
def regsGoneWrong : ChangeSpec := { name := "regsGone", fn := fun _ => fun
  | [d1, d2, d3] => { results := [.lit (.bool false)], args := [d1, d2, d3] }
  | _ => none }
def RegsGoneWrongFalsely : Prop := regsGoneRow.holds Try.pinned (OpenSpec.ofChange regsGoneWrong)

/-- 'hermitagelaw11.RegsPlays': WHATEVER THE INPUT: true; the input reads as it did. -/
def regsPlaysSpec : ChangeSpec := { name := "regsPlays", fn := fun _ => fun
  | [d1, d2, d3] => { results := [.lit (.bool true)], args := [d1, d2, d3] }
  | _ => none }
def regsPlaysRow : OpenClaim := { program := "ytjphehncpgekfaa", sum := "998ecf603e2cb28e3774b0ca4860ed226e947f6f46350ba720e19dd73a8c7996", func := "hermitage/hermitagelaw11.RegsPlays", spec := "regsPlays", apart := false }
def RegsPlaysSaid : Prop := regsPlaysRow.holds Try.pinned (OpenSpec.ofChange regsPlaysSpec)

/-- ITS FALSE NEIGHBOUR: 'it returns false'. Refute it at one input. -/
def regsPlaysWrong : ChangeSpec := { name := "regsPlays", fn := fun _ => fun
  | [d1, d2, d3] => { results := [.lit (.bool false)], args := [d1, d2, d3] }
  | _ => none }
def RegsPlaysWrongFalsely : Prop := regsPlaysRow.holds Try.pinned (OpenSpec.ofChange regsPlaysWrong)

/-- 'hermitagelaw11.RegsZero': WHATEVER THE INPUT: true; the input reads as it did. -/
def regsZeroSpec : ChangeSpec := { name := "regsZero", fn := fun _ => fun
  | [d1, d2] => { results := [.lit (.bool true)], args := [d1, d2] }
  | _ => none }
def regsZeroRow : OpenClaim := { program := "ytjphehncpgekfaa", sum := "998ecf603e2cb28e3774b0ca4860ed226e947f6f46350ba720e19dd73a8c7996", func := "hermitage/hermitagelaw11.RegsZero", spec := "regsZero", apart := false }
def RegsZeroSaid : Prop := regsZeroRow.holds Try.pinned (OpenSpec.ofChange regsZeroSpec)

/-- ITS FALSE NEIGHBOUR: 'it returns false'. Refute it at one input. -/
def regsZeroWrong : ChangeSpec := { name := "regsZero", fn := fun _ => fun
  | [d1, d2] => { results := [.lit (.bool false)], args := [d1, d2] }
  | _ => none }
def RegsZeroWrongFalsely : Prop := regsZeroRow.holds Try.pinned (OpenSpec.ofChange regsZeroWrong)

/-- 'hermitagelaw01.LabelPlays': WHATEVER THE INPUT: true; the input reads as it did. -/
def labelPlaysSpec : ChangeSpec := { name := "labelPlays", fn := fun _ => fun
  | [d1, d2, d3, d4] => { results := [.lit (.bool true)], args := [d1, d2, d3, d4] }
  | _ => none }
def labelPlaysRow : OpenClaim := { program := "ytjphehncpgekfaa", sum := "998ecf603e2cb28e3774b0ca4860ed226e947f6f46350ba720e19dd73a8c7996", func := "hermitage/hermitagelaw01.LabelPlays", spec := "labelPlays", unfollowed := true, recurses := true, apart := false }
def LabelPlaysSaid : Prop := labelPlaysRow.holds Try.pinned (OpenSpec.ofChange labelPlaysSpec)

/-- ITS FALSE NEIGHBOUR: 'it returns false'. Refute it at one input. -/
def labelPlaysWrong : ChangeSpec := { name := "labelPlays", fn := fun _ => fun
  | [d1, d2, d3, d4] => { results := [.lit (.bool false)], args := [d1, d2, d3, d4] }
  | _ => none }
def LabelPlaysWrongFalsely : Prop := labelPlaysRow.holds Try.pinned (OpenSpec.ofChange labelPlaysWrong)

/-- 'hermitagelaw08.AluBack': WHATEVER THE INPUT: true; the input reads as it did. -/
def aluBackSpec : ChangeSpec := { name := "aluBack", fn := fun _ => fun
  | [d1, d2] => { results := [.lit (.bool true)], args := [d1, d2] }
  | _ => none }
def aluBackRow : OpenClaim := { program := "ytjphehncpgekfaa", sum := "998ecf603e2cb28e3774b0ca4860ed226e947f6f46350ba720e19dd73a8c7996", func := "hermitage/hermitagelaw08.AluBack", spec := "aluBack", unfollowed := true, recurses := true, apart := false }
def AluBackSaid : Prop := aluBackRow.holds Try.pinned (OpenSpec.ofChange aluBackSpec)

/-- ITS FALSE NEIGHBOUR: 'it returns false'. Refute it at one input. -/
def aluBackWrong : ChangeSpec := { name := "aluBack", fn := fun _ => fun
  | [d1, d2] => { results := [.lit (.bool false)], args := [d1, d2] }
  | _ => none }
def AluBackWrongFalsely : Prop := aluBackRow.holds Try.pinned (OpenSpec.ofChange aluBackWrong)

/-- 'hermitagelaw08.AluShifts': WHATEVER THE INPUT: true; the input reads as it did. -/
def aluShiftsSpec : ChangeSpec := { name := "aluShifts", fn := fun _ => fun
  | [d1, d2] => { results := [.lit (.bool true)], args := [d1, d2] }
  | _ => none }
def aluShiftsRow : OpenClaim := { program := "ytjphehncpgekfaa", sum := "998ecf603e2cb28e3774b0ca4860ed226e947f6f46350ba720e19dd73a8c7996", func := "hermitage/hermitagelaw08.AluShifts", spec := "aluShifts", unfollowed := true, recurses := true, apart := false }
def AluShiftsSaid : Prop := aluShiftsRow.holds Try.pinned (OpenSpec.ofChange aluShiftsSpec)

/-- ITS FALSE NEIGHBOUR: 'it returns false'. Refute it at one input. -/
def aluShiftsWrong : ChangeSpec := { name := "aluShifts", fn := fun _ => fun
  | [d1, d2] => { results := [.lit (.bool false)], args := [d1, d2] }
  | _ => none }
def AluShiftsWrongFalsely : Prop := aluShiftsRow.holds Try.pinned (OpenSpec.ofChange aluShiftsWrong)

/-- 'hermitagelaw08.AluLess': WHATEVER THE INPUT: true; the input reads as it did. -/
def aluLessSpec : ChangeSpec := { name := "aluLess", fn := fun _ => fun
  | [d1, d2] => { results := [.lit (.bool true)], args := [d1, d2] }
  | _ => none }
def aluLessRow : OpenClaim := { program := "ytjphehncpgekfaa", sum := "998ecf603e2cb28e3774b0ca4860ed226e947f6f46350ba720e19dd73a8c7996", func := "hermitage/hermitagelaw08.AluLess", spec := "aluLess", unfollowed := true, recurses := true, apart := false }
def AluLessSaid : Prop := aluLessRow.holds Try.pinned (OpenSpec.ofChange aluLessSpec)

/-- ITS FALSE NEIGHBOUR: 'it returns false'. Refute it at one input. -/
def aluLessWrong : ChangeSpec := { name := "aluLess", fn := fun _ => fun
  | [d1, d2] => { results := [.lit (.bool false)], args := [d1, d2] }
  | _ => none }
def AluLessWrongFalsely : Prop := aluLessRow.holds Try.pinned (OpenSpec.ofChange aluLessWrong)

/- THE SECOND FORM. 'bulk': how many values and letters a reading holds, each counted each time it is reached (what is shared counts as often as it is met; a slice's spare places count too). A statement '..UptoSaid' is the law's where the arguments, and the package variables that the reading takes, are together of bulk at most 1048576: NARROWER than '..Said'. Prove '..Said' where nothing that the law and all that it calls make is longer than what came in: it says more and counts as full. Else prove '..UptoSaid'. A law counts once. -/
mutual
def uptoBulk {H : Type} : DataW H → Nat
  | .lit (.string bytes) => bytes.length + 1
  | .lit _ => 1
  | .nil => 1
  | .ptr d => uptoBulk d + 1
  | .slice elems spare => uptoBulkAll elems + uptoBulkAll spare + 1
  | .agg parts => uptoBulkAll parts + 1
  | .iface _ d => uptoBulk d + 1
  | .map entries => uptoBulkEntries entries + 1
  | .held _ => 1
def uptoBulkAll {H : Type} : List (DataW H) → Nat
  | [] => 0
  | d :: r => uptoBulk d + uptoBulkAll r
def uptoBulkEntries {H : Type} : List (Lit × DataW H) → Nat
  | [] => 0
  | x :: r => uptoBulkEntry x + uptoBulkEntries r
def uptoBulkEntry {H : Type} : Lit × DataW H → Nat
  | (.string bytes, d) => bytes.length + uptoBulk d + 1
  | (_, d) => uptoBulk d + 1
 end
def uptoSmall : (H : Type) → List (DataW H) → Bool := fun _ ds => decide (uptoBulkAll ds ≤ 1048576)
def OpenSpec.upto (s : _root_.Go.ChangeSpec) : _root_.Go.OpenSpec := { _root_.Go.OpenSpec.ofChange s with cond := some uptoSmall }

/-- 'hermitagelaw01.LabelOrder', WHERE WHAT IT READS IS OF BULK AT MOST 1048576: true; the input reads as it did. -/
def labelOrderUptoRow : OpenClaim := { program := "ytjphehncpgekfaa", sum := "998ecf603e2cb28e3774b0ca4860ed226e947f6f46350ba720e19dd73a8c7996", func := "hermitage/hermitagelaw01.LabelOrder", spec := "labelOrder", apart := false, narrowed := true }
def LabelOrderUptoSaid : Prop := labelOrderUptoRow.holds Try.pinned (OpenSpec.upto labelOrderSpec)

/-- 'hermitagelaw11.RegsOne', WHERE WHAT IT READS IS OF BULK AT MOST 1048576: true; the input reads as it did. -/
def regsOneUptoRow : OpenClaim := { program := "ytjphehncpgekfaa", sum := "998ecf603e2cb28e3774b0ca4860ed226e947f6f46350ba720e19dd73a8c7996", func := "hermitage/hermitagelaw11.RegsOne", spec := "regsOne", apart := false, narrowed := true }
def RegsOneUptoSaid : Prop := regsOneUptoRow.holds Try.pinned (OpenSpec.upto regsOneSpec)

/-- 'hermitagelaw01.LabelTexts', WHERE WHAT IT READS IS OF BULK AT MOST 1048576: true; the input reads as it did. -/
def labelTextsUptoRow : OpenClaim := { program := "ytjphehncpgekfaa", sum := "998ecf603e2cb28e3774b0ca4860ed226e947f6f46350ba720e19dd73a8c7996", func := "hermitage/hermitagelaw01.LabelTexts", spec := "labelTexts", apart := false, narrowed := true }
def LabelTextsUptoSaid : Prop := labelTextsUptoRow.holds Try.pinned (OpenSpec.upto labelTextsSpec)

/-- 'hermitagelaw01.LabelBack', WHERE WHAT IT READS IS OF BULK AT MOST 1048576: true; the input reads as it did. -/
def labelBackUptoRow : OpenClaim := { program := "ytjphehncpgekfaa", sum := "998ecf603e2cb28e3774b0ca4860ed226e947f6f46350ba720e19dd73a8c7996", func := "hermitage/hermitagelaw01.LabelBack", spec := "labelBack", apart := false, narrowed := true }
def LabelBackUptoSaid : Prop := labelBackUptoRow.holds Try.pinned (OpenSpec.upto labelBackSpec)

/-- 'hermitagelaw34.TraceZero', WHERE WHAT IT READS IS OF BULK AT MOST 1048576: true; the input reads as it did. -/
def traceZeroUptoRow : OpenClaim := { program := "ytjphehncpgekfaa", sum := "998ecf603e2cb28e3774b0ca4860ed226e947f6f46350ba720e19dd73a8c7996", func := "hermitage/hermitagelaw34.TraceZero", spec := "traceZero", apart := false, narrowed := true }
def TraceZeroUptoSaid : Prop := traceZeroUptoRow.holds Try.pinned (OpenSpec.upto traceZeroSpec)

/-- 'hermitagelaw01.LabelLeast', WHERE WHAT IT READS IS OF BULK AT MOST 1048576: true; the input reads as it did. -/
def labelLeastUptoRow : OpenClaim := { program := "ytjphehncpgekfaa", sum := "998ecf603e2cb28e3774b0ca4860ed226e947f6f46350ba720e19dd73a8c7996", func := "hermitage/hermitagelaw01.LabelLeast", spec := "labelLeast", unfollowed := true, recurses := true, apart := false, narrowed := true }
def LabelLeastUptoSaid : Prop := labelLeastUptoRow.holds Try.pinned (OpenSpec.upto labelLeastSpec)

/-- 'hermitagelaw11.RegsGone', WHERE WHAT IT READS IS OF BULK AT MOST 1048576: true; the input reads as it did. -/
def regsGoneUptoRow : OpenClaim := { program := "ytjphehncpgekfaa", sum := "998ecf603e2cb28e3774b0ca4860ed226e947f6f46350ba720e19dd73a8c7996", func := "hermitage/hermitagelaw11.RegsGone", spec := "regsGone", apart := false, narrowed := true }
def RegsGoneUptoSaid : Prop := regsGoneUptoRow.holds Try.pinned (OpenSpec.upto regsGoneSpec)

/-- 'hermitagelaw11.RegsPlays', WHERE WHAT IT READS IS OF BULK AT MOST 1048576: true; the input reads as it did. -/
def regsPlaysUptoRow : OpenClaim := { program := "ytjphehncpgekfaa", sum := "998ecf603e2cb28e3774b0ca4860ed226e947f6f46350ba720e19dd73a8c7996", func := "hermitage/hermitagelaw11.RegsPlays", spec := "regsPlays", apart := false, narrowed := true }
def RegsPlaysUptoSaid : Prop := regsPlaysUptoRow.holds Try.pinned (OpenSpec.upto regsPlaysSpec)

/-- 'hermitagelaw11.RegsZero', WHERE WHAT IT READS IS OF BULK AT MOST 1048576: true; the input reads as it did. -/
def regsZeroUptoRow : OpenClaim := { program := "ytjphehncpgekfaa", sum := "998ecf603e2cb28e3774b0ca4860ed226e947f6f46350ba720e19dd73a8c7996", func := "hermitage/hermitagelaw11.RegsZero", spec := "regsZero", apart := false, narrowed := true }
def RegsZeroUptoSaid : Prop := regsZeroUptoRow.holds Try.pinned (OpenSpec.upto regsZeroSpec)

/-- 'hermitagelaw01.LabelPlays', WHERE WHAT IT READS IS OF BULK AT MOST 1048576: true; the input reads as it did. -/
def labelPlaysUptoRow : OpenClaim := { program := "ytjphehncpgekfaa", sum := "998ecf603e2cb28e3774b0ca4860ed226e947f6f46350ba720e19dd73a8c7996", func := "hermitage/hermitagelaw01.LabelPlays", spec := "labelPlays", unfollowed := true, recurses := true, apart := false, narrowed := true }
def LabelPlaysUptoSaid : Prop := labelPlaysUptoRow.holds Try.pinned (OpenSpec.upto labelPlaysSpec)

/-- 'hermitagelaw08.AluBack', WHERE WHAT IT READS IS OF BULK AT MOST 1048576: true; the input reads as it did. -/
def aluBackUptoRow : OpenClaim := { program := "ytjphehncpgekfaa", sum := "998ecf603e2cb28e3774b0ca4860ed226e947f6f46350ba720e19dd73a8c7996", func := "hermitage/hermitagelaw08.AluBack", spec := "aluBack", unfollowed := true, recurses := true, apart := false, narrowed := true }
def AluBackUptoSaid : Prop := aluBackUptoRow.holds Try.pinned (OpenSpec.upto aluBackSpec)

/-- 'hermitagelaw08.AluShifts', WHERE WHAT IT READS IS OF BULK AT MOST 1048576: true; the input reads as it did. -/
def aluShiftsUptoRow : OpenClaim := { program := "ytjphehncpgekfaa", sum := "998ecf603e2cb28e3774b0ca4860ed226e947f6f46350ba720e19dd73a8c7996", func := "hermitage/hermitagelaw08.AluShifts", spec := "aluShifts", unfollowed := true, recurses := true, apart := false, narrowed := true }
def AluShiftsUptoSaid : Prop := aluShiftsUptoRow.holds Try.pinned (OpenSpec.upto aluShiftsSpec)

/-- 'hermitagelaw08.AluLess', WHERE WHAT IT READS IS OF BULK AT MOST 1048576: true; the input reads as it did. -/
def aluLessUptoRow : OpenClaim := { program := "ytjphehncpgekfaa", sum := "998ecf603e2cb28e3774b0ca4860ed226e947f6f46350ba720e19dd73a8c7996", func := "hermitage/hermitagelaw08.AluLess", spec := "aluLess", unfollowed := true, recurses := true, apart := false, narrowed := true }
def AluLessUptoSaid : Prop := aluLessUptoRow.holds Try.pinned (OpenSpec.upto aluLessSpec)

end Rows
end Go.Proofs.Ytjphehncpgekfaa
