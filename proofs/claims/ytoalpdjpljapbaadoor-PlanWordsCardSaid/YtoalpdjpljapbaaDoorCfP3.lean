/- Package parts: Who. -/
import Derived.Test.YtoalpdjpljapbaaDoorParts2
import Derived.Sort.QuietIn
namespace Go.Proofs.YtoalpdjpljapbaaDoor
set_option linter.unusedVariables false
set_option linter.unusedSimpArgs false
set_option linter.unnecessarySimpa false
open Go.RowKit Go.Shelf
set_option maxHeartbeats 400000
set_option maxRecDepth 100000
attribute [local go_sem] Oper.semAt_some wide_fn
attribute [local simp] wide_fn

def hits (i : Int) (r : Rn) : Bool := decide ((r.1 : Int) ≤ i) && decide (i < (r.1 : Int) + r.2.1)
def whoV (R : List Rn) (i : Int) : Int × Bool := match R.find? (hits i) with
  | some r => (r.2.2, true)
  | none => (0, false)
theorem who_out {n : Nat} {R : List Rn} (h : Okr n R) {i : Int} (hi : ¬ (0 ≤ i ∧ i < n)) : whoV R i = (0, false) := by
  have : R.find? (hits i) = none := by
    rw [List.find?_eq_none]
    intro r hr
    have := h.each r hr
    simp [hits]
    omega
  rw [whoV, this]
theorem find_snoc (i : Int) (R : List Rn) (r : Rn) (h : R.find? (hits i) = none) : (R ++ [r]).find? (hits i) = if hits i r then some r else none := by
  rw [List.find?_append, h]
  simp [List.find?_cons]
  cases hits i r <;> rfl
theorem find_take {i : Int} {R : List Rn} {k : Nat} {r : Rn} (h : (R.take k).find? (hits i) = some r) : R.find? (hits i) = some r := by
  rw [← List.take_append_drop k R, List.find?_append, h]
  rfl
theorem none_in (B tt cap n : Nat) (a : Option Addr) (R : List Rn) (w : World) (h : TSt w B tt a cap n R) (m : Nat) : CallsIn Fence.wide m Tryd.prog 84 #[.pointer (some ⟨tt, 0, none⟩)] w fun e w' => e = .returned (.bool false) ∧ w = w' := callsIn_wide.2 (none_no B tt cap n a R w h)
theorem quietIn {F : Fence} {m : Nat} {P : Program} {f : FuncId} {args : Array Value} {w : World} {k : Nat} {v : Value} (h : CallsIn F m P f args (w.drewN k) fun e w' => e = .returned v ∧ w.drewN k = w') : CallsIn F m P f args (w.drewN k) fun e w'' => e = .returned v ∧ ∃ n, w'' = w.drewN n :=
  h.mono fun _ _ ⟨he, hw⟩ => ⟨he, k, hw.symm⟩
end Go.Proofs.YtoalpdjpljapbaaDoor
