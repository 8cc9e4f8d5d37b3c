/- The tables that the rows of chapter 05 list. -/
import Derived.Test.YtoalpdjpljapbaaDoorFlat
import Derived.Test.YtoalpdjpljapbaaDoorPl9
import Derived.Test.YtoalpdjpljapbaaDoorRows
import Derived.LaidSub
import Derived.Lib.LaidTab
import Derived.Deep.DeepHandedRow
namespace Go.Proofs.YtoalpdjpljapbaaDoor
set_option linter.unusedVariables false
set_option linter.unusedSimpArgs false
set_option linter.unnecessarySimpa false
open Go.ChangeShapes Go.WideShapes Go.ChangeAt Go.RowKit
set_option linter.unusedVariables false
set_option maxRecDepth 100000
def keepN (n : String) (x : String × DataW Unit) : Bool := x.1 == n
def wordsI : List Int := [2, 4, 4, 3, 3, 3, 3]
theorem word_of {W : World} (h : laidMetH Tryd.prog Rows.planWordsRow.laid W) : WdTab W := by
  have h2 : laidMetH Tryd.prog [("hermitage/plan.words", Rows.laid_hermitage_plan_words)] W := h.filter (keepN "hermitage/plan.words")
  have hg : Tryd.prog.globalNamed "hermitage/plan.words" = some 0 := by kernel_rfl
  have h3 : Lib.TabIs Tryd.prog W "hermitage/plan.words" .i64 wordsI := Lib.tabIs_of_head (rest := []) (g := 0) (t := 88) (e := 3) (n := 7) hg (by kernel_rfl) Tryd.underlying88 Tryd.underlying3 (by kernel_rfl) (by kernel_rfl) h2
  intro k hk
  have := h3.cell hg k hk
  rcases (by omega : k = 0 ∨ k = 1 ∨ k = 2 ∨ k = 3 ∨ k = 4 ∨ k = 5 ∨ k = 6) with rfl | rfl | rfl | rfl | rfl | rfl | rfl <;> exact this
def tabAcc : List Int := [128, 191, 160, 191, 128, 159, 144, 191, 128, 143, 0, 0, 0, 0, 0, 0, 0, 0, 0, 0, 0, 0, 0, 0, 0, 0, 0, 0, 0, 0, 0, 0]
noncomputable def layT (g : Nat) (vs : List Value) (h : Array Obj) : Array Obj := h.modify g fun
  | .cells _ t frozen => .cells vs.toArray t frozen
  | o => o
noncomputable def layAll (h : Array Obj) : Array Obj :=
  layT 2 (Go.Pinned.utf8FirstZ.map fun (n : Nat) => Value.int .u8 n) (layT 3 (tabAcc.map (Value.int .u8)) (layT 0 (wordsI.map (Value.int .i64)) h))
end Go.Proofs.YtoalpdjpljapbaaDoor
