/-
  No cell of these rows narrows 'for every input' (looked for: loops, veiled, ifaces, maps, wideKeys, modest, calm, conditions, laid).
  DERIVED. THE GIVEN ROWS OF THIS SEAT. 5 by the template 'for every input the law returns true; each argument reads behind the call as it read before'; 0 by the template 'total and deterministic' (their statements: YtbalikmfbbmmjaaTotals.lean).
  GIVEN WITH THE SEED: the statements are not yours to turn. If you find one false, say at which input.
  Laid BY PROGRAM, IN A SANDBOX (cutbox-rows.mjs): the forced cells as the released guide's own fill.sh prints them over the translation 037418f55fc983b2… (all of the seat's roots in one cut). By AI agents, Wed Nov 11 2026. No macro, syntax, notation, axiom, sorry.
-/
import Derived.Test.YtbalikmfbbmmjaaChecked
import GoSem.Claim
import GoSem.ClaimJoined
import GoSem.ClaimMapViews
import Derived.JoinedTies
import Derived.KernelRfl
namespace Go.Proofs.Ytbalikmfbbmmjaa
/- THE CELL 'sum', in the pinned program and in every row, IS THE sha256 OF THE DUMP (.gsa) THAT YtbalikmfbbmmjaaProg.lean LOADS. Nothing in Lean hashes anything: it is a label: what it is worth is what the hold of that sum in a sandbox is worth. -/
noncomputable def Try.pinned : Pinned := { name := "ytbalikmfbbmmjaa", sum := "037418f55fc983b24497c3965722b0cdffded476ffac7db865e7963146f9c707", checked := Try.checked }
namespace Rows
def none {H : Type} : Left H := { results := [], args := [] }

/-- 'hermitagelaw12.CsrBack': WHATEVER THE INPUT: true; the input reads as it did. -/
def csrBackSpec : ChangeSpec := { name := "csrBack", fn := fun _ => fun
  | [d1, d2, d3, d4, d5, d6] => { results := [.lit (.bool true)], args := [d1, d2, d3, d4, d5, d6] }
  | _ => none }
def csrBackRow : OpenClaim := { program := "ytbalikmfbbmmjaa", sum := "037418f55fc983b24497c3965722b0cdffded476ffac7db865e7963146f9c707", func := "hermitage/hermitagelaw12.CsrBack", spec := "csrBack", unfollowed := true, recurses := true, apart := false }
def CsrBackSaid : Prop := csrBackRow.holds Try.pinned (OpenSpec.ofChange csrBackSpec)

/-- ITS FALSE NEIGHBOUR: 'it returns false'. Refute it at one input. -/
def csrBackWrong : ChangeSpec := { name := "csrBack", fn := fun _ => fun
  | [d1, d2, d3, d4, d5, d6] => { results := [.lit (.bool false)], args := [d1, d2, d3, d4, d5, d6] }
  | _ => none }
def CsrBackWrongFalsely : Prop := csrBackRow.holds Try.pinned (OpenSpec.ofChange csrBackWrong)

/-- 'hermitagelaw12.CsrUser': WHATEVER THE INPUT: true; the input reads as it did. -/
def csrUserSpec : ChangeSpec := { name := "csrUser", fn := fun _ => fun
  | [d1, d2, d3, d4] => { results := [.lit (.bool true)], args := [d1, d2, d3, d4] }
  | _ => none }
def csrUserRow : OpenClaim := { program := "ytbalikmfbbmmjaa", sum := "037418f55fc983b24497c3965722b0cdffded476ffac7db865e7963146f9c707", func := "hermitage/hermitagelaw12.CsrUser", spec := "csrUser", unfollowed := true, recurses := true, apart := false }
def CsrUserSaid : Prop := csrUserRow.holds Try.pinned (OpenSpec.ofChange csrUserSpec)

/-- ITS FALSE NEIGHBOUR: 'it returns false'. Refute it at one input. -/
def csrUserWrong : ChangeSpec := { name := "csrUser", fn := fun _ => fun
  | [d1, d2, d3, d4] => { results := [.lit (.bool false)], args := [d1, d2, d3, d4] }
  | _ => none }
def CsrUserWrongFalsely : Prop := csrUserRow.holds Try.pinned (OpenSpec.ofChange csrUserWrong)

/-- 'hermitagelaw12.CsrBits': WHATEVER THE INPUT: true; the input reads as it did. -/
def csrBitsSpec : ChangeSpec := { name := "csrBits", fn := fun _ => fun
  | [d1, d2, d3] => { results := [.lit (.bool true)], args := [d1, d2, d3] }
  | _ => none }
def csrBitsRow : OpenClaim := { program := "ytbalikmfbbmmjaa", sum := "037418f55fc983b24497c3965722b0cdffded476ffac7db865e7963146f9c707", func := "hermitage/hermitagelaw12.CsrBits", spec := "csrBits", unfollowed := true, recurses := true, apart := false }
def CsrBitsSaid : Prop := csrBitsRow.holds Try.pinned (OpenSpec.ofChange csrBitsSpec)

/-- ITS FALSE NEIGHBOUR: 'it returns false'. Refute it at one input. -/
def csrBitsWrong : ChangeSpec := { name := "csrBits", fn := fun _ => fun
  | [d1, d2, d3] => { results := [.lit (.bool false)], args := [d1, d2, d3] }
  | _ => none }
def CsrBitsWrongFalsely : Prop := csrBitsRow.holds Try.pinned (OpenSpec.ofChange csrBitsWrong)

/-- 'hermitagelaw12.CsrZero': WHATEVER THE INPUT: true; the input reads as it did. -/
def csrZeroSpec : ChangeSpec := { name := "csrZero", fn := fun _ => fun
  | [d1, d2] => { results := [.lit (.bool true)], args := [d1, d2] }
  | _ => none }
def csrZeroRow : OpenClaim := { program := "ytbalikmfbbmmjaa", sum := "037418f55fc983b24497c3965722b0cdffded476ffac7db865e7963146f9c707", func := "hermitage/hermitagelaw12.CsrZero", spec := "csrZero", unfollowed := true, recurses := true, apart := false }
def CsrZeroSaid : Prop := csrZeroRow.holds Try.pinned (OpenSpec.ofChange csrZeroSpec)

/-- ITS FALSE NEIGHBOUR: 'it returns false'. Refute it at one input. -/
def csrZeroWrong : ChangeSpec := { name := "csrZero", fn := fun _ => fun
  | [d1, d2] => { results := [.lit (.bool false)], args := [d1, d2] }
  | _ => none }
def CsrZeroWrongFalsely : Prop := csrZeroRow.holds Try.pinned (OpenSpec.ofChange csrZeroWrong)

/-- 'hermitagelaw12.CsrPlays': WHATEVER THE INPUT: true; the input reads as it did. -/
def csrPlaysSpec : ChangeSpec := { name := "csrPlays", fn := fun _ => fun
  | [d1, d2, d3, d4, d5] => { results := [.lit (.bool true)], args := [d1, d2, d3, d4, d5] }
  | _ => none }
def csrPlaysRow : OpenClaim := { program := "ytbalikmfbbmmjaa", sum := "037418f55fc983b24497c3965722b0cdffded476ffac7db865e7963146f9c707", func := "hermitage/hermitagelaw12.CsrPlays", spec := "csrPlays", unfollowed := true, recurses := true, apart := false }
def CsrPlaysSaid : Prop := csrPlaysRow.holds Try.pinned (OpenSpec.ofChange csrPlaysSpec)

/-- ITS FALSE NEIGHBOUR: 'it returns false'. Refute it at one input. -/
def csrPlaysWrong : ChangeSpec := { name := "csrPlays", fn := fun _ => fun
  | [d1, d2, d3, d4, d5] => { results := [.lit (.bool false)], args := [d1, d2, d3, d4, d5] }
  | _ => none }
def CsrPlaysWrongFalsely : Prop := csrPlaysRow.holds Try.pinned (OpenSpec.ofChange csrPlaysWrong)

/- THE SECOND FORM. 'bulk': how many values and letters a reading holds, each counted each time it is reached (what is shared counts as often as it is met; a slice's spare places count too). A statement '..UptoSaid' is the law's where the arguments, and the package variables that the reading takes, are together of bulk at most 1048576: NARROWER than '..Said'. Prove '..Said' where nothing that the law and all that it calls make is longer than what came in: it says more and counts as full. Else prove '..UptoSaid'. A law counts once. -/
mutual
def uptoBulk {H : Type} : DataW H → Nat
  | .lit (.string bytes) => bytes.length + 1
  | .lit _ => 1
  | .nil => 1
  | .ptr d => uptoBulk d + 1
  | .slice elems spare => uptoBulkAll elems + uptoBulkAll spare + 1
  | .agg parts => uptoBulkAll parts + 1
  | .iface _ d => uptoBulk d + 1
  | .map entries => uptoBulkEntries entries + 1
  | .held _ => 1
def uptoBulkAll {H : Type} : List (DataW H) → Nat
  | [] => 0
  | d :: r => uptoBulk d + uptoBulkAll r
def uptoBulkEntries {H : Type} : List (Lit × DataW H) → Nat
  | [] => 0
  | x :: r => uptoBulkEntry x + uptoBulkEntries r
def uptoBulkEntry {H : Type} : Lit × DataW H → Nat
  | (.string bytes, d) => bytes.length + uptoBulk d + 1
  | (_, d) => uptoBulk d + 1
 end
def uptoSmall : (H : Type) → List (DataW H) → Bool := fun _ ds => decide (uptoBulkAll ds ≤ 1048576)
def OpenSpec.upto (s : _root_.Go.ChangeSpec) : _root_.Go.OpenSpec := { _root_.Go.OpenSpec.ofChange s with cond := some uptoSmall }

/-- 'hermitagelaw12.CsrBack', WHERE WHAT IT READS IS OF BULK AT MOST 1048576: true; the input reads as it did. -/
def csrBackUptoRow : OpenClaim := { program := "ytbalikmfbbmmjaa", sum := "037418f55fc983b24497c3965722b0cdffded476ffac7db865e7963146f9c707", func := "hermitage/hermitagelaw12.CsrBack", spec := "csrBack", unfollowed := true, recurses := true, apart := false, narrowed := true }
def CsrBackUptoSaid : Prop := csrBackUptoRow.holds Try.pinned (OpenSpec.upto csrBackSpec)

/-- 'hermitagelaw12.CsrUser', WHERE WHAT IT READS IS OF BULK AT MOST 1048576: true; the input reads as it did. -/
def csrUserUptoRow : OpenClaim := { program := "ytbalikmfbbmmjaa", sum := "037418f55fc983b24497c3965722b0cdffded476ffac7db865e7963146f9c707", func := "hermitage/hermitagelaw12.CsrUser", spec := "csrUser", unfollowed := true, recurses := true, apart := false, narrowed := true }
def CsrUserUptoSaid : Prop := csrUserUptoRow.holds Try.pinned (OpenSpec.upto csrUserSpec)

/-- 'hermitagelaw12.CsrBits', WHERE WHAT IT READS IS OF BULK AT MOST 1048576: true; the input reads as it did. -/
def csrBitsUptoRow : OpenClaim := { program := "ytbalikmfbbmmjaa", sum := "037418f55fc983b24497c3965722b0cdffded476ffac7db865e7963146f9c707", func := "hermitage/hermitagelaw12.CsrBits", spec := "csrBits", unfollowed := true, recurses := true, apart := false, narrowed := true }
def CsrBitsUptoSaid : Prop := csrBitsUptoRow.holds Try.pinned (OpenSpec.upto csrBitsSpec)

/-- 'hermitagelaw12.CsrZero', WHERE WHAT IT READS IS OF BULK AT MOST 1048576: true; the input reads as it did. -/
def csrZeroUptoRow : OpenClaim := { program := "ytbalikmfbbmmjaa", sum := "037418f55fc983b24497c3965722b0cdffded476ffac7db865e7963146f9c707", func := "hermitage/hermitagelaw12.CsrZero", spec := "csrZero", unfollowed := true, recurses := true, apart := false, narrowed := true }
def CsrZeroUptoSaid : Prop := csrZeroUptoRow.holds Try.pinned (OpenSpec.upto csrZeroSpec)

/-- 'hermitagelaw12.CsrPlays', WHERE WHAT IT READS IS OF BULK AT MOST 1048576: true; the input reads as it did. -/
def csrPlaysUptoRow : OpenClaim := { program := "ytbalikmfbbmmjaa", sum := "037418f55fc983b24497c3965722b0cdffded476ffac7db865e7963146f9c707", func := "hermitage/hermitagelaw12.CsrPlays", spec := "csrPlays", unfollowed := true, recurses := true, apart := false, narrowed := true }
def CsrPlaysUptoSaid : Prop := csrPlaysUptoRow.holds Try.pinned (OpenSpec.upto csrPlaysSpec)

end Rows
end Go.Proofs.Ytbalikmfbbmmjaa
