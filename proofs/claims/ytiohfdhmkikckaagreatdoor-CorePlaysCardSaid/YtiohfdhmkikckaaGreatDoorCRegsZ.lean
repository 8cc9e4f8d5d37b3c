/- Contracts (Regs): RegsRef. -/
import Derived.Test.YtiohfdhmkikckaaGreatDoorCRegs
namespace Go.Proofs.YtiohfdhmkikckaaGreatDoor
set_option linter.unusedVariables false
set_option linter.unusedSimpArgs false
set_option linter.unnecessarySimpa false
namespace Regs
set_option maxHeartbeats 4000000
set_option maxRecDepth 100000
section
open Go.RowKit
theorem rget_any (i : Int) (b : Nat) (r : List Int) (pc : Int) (w : World) (h : RefAt w b r pc) : Calls Tryz.prog 60 #[.pointer (some ⟨b, 0, none⟩), .int .i64 i] w fun e w' => e = .returned (.tuple #[.int .u32 (getV r i), .int .i64 (mayE i)]) ∧ w = w' := by
  by_cases h1 : i < 0
  · have HE : Hid (mayE i = 1) := by simp [Hid, mayE, inR]; omega
    have HG : Hid (getV r i = 0) := by simp [Hid, getV, inR]; omega
    clear h
    go_enter Tryz.func60, Tryz.ntmps60
    go_wp2
    go_ret2
    exact ⟨ret_two (by rw [HG.out]) (by rw [HE.out]), rfl⟩
  · by_cases h2 : 16 ≤ i
    · have HE : Hid (mayE i = 1) := by simp [Hid, mayE, inR]; omega
      have HG : Hid (getV r i = 0) := by simp [Hid, getV, inR]; omega
      clear h
      go_enter Tryz.func60, Tryz.ntmps60
      go_wp2
      go_ret2
      exact ⟨ret_two (by rw [HG.out]) (by rw [HE.out]), rfl⟩
    · have HE : Hid (mayE i = 0) := by simp [Hid, mayE, inR]; omega
      obtain ⟨n, rfl⟩ := Int.eq_ofNat_of_zero_le (by omega : 0 ≤ i)
      have hc := h.reg n (by omega)
      have HG : Hid (getV r n = r.getD n 0) := by simp [Hid, getV, inR]; omega
      obtain ⟨x, hx⟩ : ∃ x, x = r.getD n 0 := ⟨_, rfl⟩
      have HX := Lib.hid hx
      rw [← hx] at hc
      clear hx h
      go_enter Tryz.func60, Tryz.ntmps60
      go_wp2
      go_ret2
      exact ⟨ret_two (by rw [HG.out, HX.out]) (by rw [HE.out]), rfl⟩
end
end Regs
end Go.Proofs.YtiohfdhmkikckaaGreatDoor
