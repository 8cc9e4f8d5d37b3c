/- The tables that the rows of chapter 10 list. -/
import Derived.Test.YtbemhbooihaadaaDoorFlat
import Derived.Test.YtbemhbooihaadaaDoorAsY
import Derived.Test.YtbemhbooihaadaaDoorRows
import Derived.LaidSub
import Derived.Lib.LaidTab
import Derived.Deep.DeepHandedRow
namespace Go.Proofs.YtbemhbooihaadaaDoor
set_option linter.unusedVariables false
set_option linter.unusedSimpArgs false
set_option linter.unnecessarySimpa false
open Go.ChangeShapes Go.WideShapes Go.ChangeAt Go.RowKit
set_option linter.unusedVariables false
set_option maxRecDepth 100000
def keepN (n : String) (x : String × DataW Unit) : Bool := x.1 == n
theorem pow_of {W : World} (h : laidMetH Tryd.prog Rows.asmTextsRow.laid W) : PowIs W := by
  have h2 : laidMetH Tryd.prog [("internal/strconv.uint64pow10", Rows.laid_internal_strconv_uint64pow10)] W := h.filter (keepN "internal/strconv.uint64pow10")
  exact Lib.tabIs_of_head (rest := []) (g := 2) (t := 114) (e := 95) (n := 20) (by kernel_rfl) (by kernel_rfl) Tryd.underlying114 Tryd.underlying95 (by kernel_rfl) (by kernel_rfl) h2
theorem has_of {W : World} (h : laidMetH Tryd.prog Rows.asmTextsRow.laid W) : Isa.Tab W := by
  have h2 : laidMetH Tryd.prog [("hermitage/isa.has", Rows.laid_hermitage_isa_has)] W := h.filter (keepN "hermitage/isa.has")
  have hg : Tryd.prog.globalNamed "hermitage/isa.has" = some 0 := by kernel_rfl
  have h3 : Lib.TabIs Tryd.prog W "hermitage/isa.has" .i64 Isa.hasL := Lib.tabIs_of_head (rest := []) (g := 0) (t := 68) (e := 3) (n := 42) hg (by kernel_rfl) Tryd.underlying68 Tryd.underlying3 (by kernel_rfl) (by kernel_rfl) h2
  exact fun i hi => h3.cell hg i hi
def tab32 : List Int := [0, 1, 28, 2, 29, 14, 24, 3, 30, 22, 20, 15, 25, 17, 4, 8, 31, 27, 13, 23, 21, 19, 16, 7, 26, 12, 18, 6, 11, 5, 10, 9]
def tab64 : List Int := [0, 1, 56, 2, 57, 49, 28, 3, 61, 58, 42, 50, 38, 29, 17, 4, 62, 47, 59, 36, 45, 43, 51, 22, 53, 39, 33, 30, 24, 18, 12, 5, 63, 55, 48, 27, 60, 41, 37, 16, 46, 35, 44, 21, 52, 32, 23, 11, 54, 26, 40, 15, 34, 20, 31, 10, 25, 14, 19, 9, 13, 8, 7, 6]
def tabAcc : List Int := [128, 191, 160, 191, 128, 159, 144, 191, 128, 143, 0, 0, 0, 0, 0, 0, 0, 0, 0, 0, 0, 0, 0, 0, 0, 0, 0, 0, 0, 0, 0, 0]
noncomputable def lay (g : Nat) (vs : List Value) (h : Array Obj) : Array Obj := h.modify g fun
  | .cells _ t frozen => .cells vs.toArray t frozen
  | o => o
noncomputable def layAll (h : Array Obj) : Array Obj :=
  lay 3 (Go.Pinned.utf8FirstZ.map fun (n : Nat) => Value.int .u8 n) (lay 4 (tabAcc.map (Value.int .u8)) (lay 6 (tab64.map (Value.int .u8)) (lay 5 (tab32.map (Value.int .u8)) (lay 2 (Lib.pow10Tab.map (Value.int .u64)) (lay 0 (Isa.hasL.map (Value.int .i64)) h)))))
end Go.Proofs.YtbemhbooihaadaaDoor
