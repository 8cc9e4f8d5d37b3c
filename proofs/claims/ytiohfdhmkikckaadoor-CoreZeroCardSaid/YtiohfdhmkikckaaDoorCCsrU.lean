/- Contracts (CsrU): CsrZero. -/
import Derived.Test.YtiohfdhmkikckaaDoorMem
import Derived.Test.YtiohfdhmkikckaaDoorRows
namespace Go.Proofs.YtiohfdhmkikckaaDoor
set_option linter.unusedVariables false
set_option linter.unusedSimpArgs false
set_option linter.unnecessarySimpa false
namespace CsrU
set_option maxHeartbeats 4000000
set_option maxRecDepth 100000
section
open Go.RowKit
/-- Nobody made it: nil, or the cell 'made' is false. -/
def Unmade (w : World) (v : Value) : Prop := v = .pointer none ∨ ∃ b, v = .pointer (some ⟨b, 0, none⟩) ∧ w.cell? ⟨b, 8, none⟩ = some (.bool false)
theorem Unmade.below {w w' : World} {v : Value} (h : Unmade w v) {B : Nat} (hB : B = w.heap.size) (hb : Below B w w') : Unmade w' v := by
  subst hB
  rcases h with h | ⟨b, h, hc⟩
  · exact .inl h
  · exact .inr ⟨b, h, (hb.cell (p := ⟨b, 8, none⟩) (World.block_lt_of_cell? w ⟨b, 8, none⟩ hc)).trans hc⟩
theorem none_un (v : Value) (w : World) (h : Unmade w v) : Calls Tryd.prog 35 #[v] w fun e w' => e = .returned (.bool true) ∧ w = w' := by
  rcases h with rfl | ⟨b, rfl, hc⟩
  · go_enter Tryd.func35, Tryd.ntmps35
    go_wp2
    go_ret
    exact ⟨rfl, rfl⟩
  · go_enter Tryd.func35, Tryd.ntmps35
    go_wp2
    go_ret
    exact ⟨rfl, rfl⟩
theorem kernel_un (v : Value) (w : World) (h : Unmade w v) : Calls Tryd.prog 52 #[v] w fun e w' => e = .returned (.int .i64 7) ∧ w = w' := by
  have H := Lib.hid h; clear h
  go_enter Tryd.func52, Tryd.ntmps52
  go_wp2_with (go_at_call 35; refine (none_un _ _ H.out).mono ?_; rintro e w' ⟨rfl, rfl⟩)
  go_ret
  exact ⟨rfl, rfl⟩
theorem read_un (v : Value) (n c : Int) (w : World) (h : Unmade w v) : Calls Tryd.prog 37 #[v, .int .i64 n, .int .i64 c] w fun e w' => e = .returned (.tuple #[.int .u32 0, .int .i64 7]) ∧ w = w' := by
  have H := Lib.hid h; clear h
  go_enter Tryd.func37, Tryd.ntmps37
  go_wp2_with (go_at_call 52; refine (kernel_un _ _ H.out).mono ?_; rintro e w' ⟨rfl, rfl⟩)
  go_ret2
  exact ⟨rfl, rfl⟩
theorem info_arr : (Tryd.prog.info? 36).map (·.size) = some 7 := by kernel_rfl
theorem all_un (v : Value) (w : World) (h : Unmade w v) : Calls Tryd.prog 17 #[v] w fun e w' => e = .returned (.agg ([0, 0, 0, 0, 0, 0, 0].map (Value.int .u32)).toArray) ∧ Below w.heap.size w w' := by
  have hb : Below w.heap.size w (w.alloc (.cells ([0, 0, 0, 0, 0, 0, 0].map (Value.int .u32)).toArray 36)) := (Below.refl _ _).alloc (Nat.le_refl _) _
  have H := Lib.hid (h.below rfl hb)
  clear h
  go_enter Tryd.func17, Tryd.ntmps17
  go_wp2_with (go_at_call 35; refine (none_un _ _ H.out).mono ?_; rintro e w' ⟨rfl, rfl⟩)
  refine bodyPost_ret (v := .agg ([0, 0, 0, 0, 0, 0, 0].map (Value.int .u32)).toArray) ?_ rfl ⟨rfl, hb⟩
  exact results_cell_row rfl _ _ w.heap.size _ _ (0, 0) _ rfl (new_block w _ _ rfl) Tryd.underlying36 rfl (by rw [info_arr]; rfl)
end
end CsrU
end Go.Proofs.YtiohfdhmkikckaaDoor
