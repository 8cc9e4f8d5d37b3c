/- Contracts (Isa): Isa2. -/
import Derived.Test.YtiohfdhmkikckaaDoorCIsa
import Derived.Laws.BitsAllLaws
namespace Go.Proofs.YtiohfdhmkikckaaDoor
set_option linter.unusedVariables false
set_option linter.unusedSimpArgs false
set_option linter.unnecessarySimpa false
namespace Isa
set_option maxHeartbeats 4000000
set_option maxRecDepth 100000
section
open Go.RowKit
theorem writes_any (op d a b n : Int) (w : World) (ht : Tab w) : Calls Tryd.prog 18 #[(.agg #[.int .i64 (op), .int .i64 (d), .int .i64 (a), .int .i64 (b), .int .i64 (n)])] w fun e w' => e = .returned (.tuple #[.int .i64 (wrV op d a b n), .bool (wrB op d a b n)]) ∧ Below w.heap.size w w' := by
  have HT := Lib.hid (alloc_tab ht (.cells #[.int .i64 (op), .int .i64 (d), .int .i64 (a), .int .i64 (b), .int .i64 (n)] 23))
  clear ht
  cases hv : validB op d a b n
  · have HE : Hid (wrV op d a b n = 0 ∧ wrB op d a b n = false) := by simp [Hid, wrV, wrB, hv]
    go_enter Tryd.func18, Tryd.ntmps18
    go_wp2_with (go_at_call 22; refine (valid_any _ _ _ _ _ _ HT.out).mono ?_; rintro e w1 ⟨rfl, hb1⟩)
    go_ret2
    exact ⟨ret_ib (by rw [HE.out.1]) (by rw [HE.out.2]), ((Below.refl _ _).alloc (Nat.le_refl _) _).trans (hb1.mono (by simp))⟩
  · have hB := (validB_bounds hv).1
    obtain ⟨o, rfl⟩ := Int.eq_ofNat_of_zero_le (show 0 ≤ op by omega)
    cases hf : bits BinOp.and IntKind.i64 (hasI o) 1 == 0
    all_goals
      have HE : Hid (wrV o d a b n = (if bits BinOp.and IntKind.i64 (hasI o) 1 == 0 then 0 else d) ∧ wrB o d a b n = !(bits BinOp.and IntKind.i64 (hasI o) 1 == 0)) := by
        simp only [Hid, wrV, wrB, hv, Int.toNat_natCast, bne, hf]; exact ⟨rfl, rfl⟩
      rw [hf] at HE
      go_enter Tryd.func18, Tryd.ntmps18
      go_wp2_with fail
      refine (valid_any _ _ _ _ _ _ HT.out).mono ?_; rintro e w1 ⟨rfl, hb1⟩
      have hk := keepB hb1 (by simp) (new_block w _ _ rfl)
      have k0 := cell_at hk 0 _ rfl; have k1 := cell_at hk 1 _ rfl
      have hc := (HT.out.below hb1) o (by omega)
      clear hk
      go_wp2_with fail
      go_ret2
      exact ⟨ret_ib (by rw [HE.out.1]; rfl) (by rw [HE.out.2]; rfl), ((Below.refl _ _).alloc (Nat.le_refl _) _).trans (hb1.mono (by simp))⟩
end
end Isa
end Go.Proofs.YtiohfdhmkikckaaDoor
