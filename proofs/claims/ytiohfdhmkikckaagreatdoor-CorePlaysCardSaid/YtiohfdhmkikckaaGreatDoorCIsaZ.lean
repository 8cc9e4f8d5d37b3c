/- Contracts (Isa): Isa2. -/
import Derived.Test.YtiohfdhmkikckaaGreatDoorCIsa
import Derived.Laws.BitsAllLaws
namespace Go.Proofs.YtiohfdhmkikckaaGreatDoor
set_option linter.unusedVariables false
set_option linter.unusedSimpArgs false
set_option linter.unnecessarySimpa false
namespace Isa
set_option maxHeartbeats 4000000
set_option maxRecDepth 100000
section
open Go.RowKit
theorem kernel_ref (op : Int) (w : World) : Calls Tryz.prog 29 #[.int .i64 op] w fun e w' => e = .returned (.bool (kernB op)) ∧ w = w' := by
  cases h1 : op == 35 <;> cases h2 : op == 36 <;> cases h3 : op == 37 <;> cases h4 : op == 38 <;> cases h5 : op == 39
  all_goals
    first
      | (exfalso; simp only [beq_iff_eq] at h1 h2 h3 h4 h5; omega)
      | (go_enter Tryz.func29, Tryz.ntmps29
         go_wp2
         go_ret
         exact ⟨ret_bool (by simp [kernB, h1, h2, h3, h4, h5]), rfl⟩)
end
end Isa
end Go.Proofs.YtiohfdhmkikckaaGreatDoor
