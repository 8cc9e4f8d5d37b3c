/- The law CsrZero. -/
import Derived.Test.YtbalikmfbbmmjaaMem
import Derived.Test.YtbalikmfbbmmjaaRows
namespace Go.Proofs.Ytbalikmfbbmmjaa
open Go.RowKit
set_option maxHeartbeats 400000
set_option maxRecDepth 100000

/-- Nobody made it: nil, or the cell 'made' is false. -/
def Unmade (w : World) (v : Value) : Prop := v = .pointer none ∨ ∃ b, v = .pointer (some ⟨b, 0, none⟩) ∧ w.cell? ⟨b, 8, none⟩ = some (.bool false)
theorem Unmade.below {w w' : World} {v : Value} (h : Unmade w v) {B : Nat} (hB : B = w.heap.size) (hb : Below B w w') : Unmade w' v := by
  subst hB
  rcases h with h | ⟨b, h, hc⟩
  · exact .inl h
  · exact .inr ⟨b, h, (hb.cell (p := ⟨b, 8, none⟩) (World.block_lt_of_cell? w ⟨b, 8, none⟩ hc)).trans hc⟩
theorem none_un (v : Value) (w : World) (h : Unmade w v) : Calls Try.prog 30 #[v] w fun e w' => e = .returned (.bool true) ∧ w = w' := by
  rcases h with rfl | ⟨b, rfl, hc⟩
  · go_enter Try.func30, Try.ntmps30
    go_wp2
    go_ret
    exact ⟨rfl, rfl⟩
  · go_enter Try.func30, Try.ntmps30
    go_wp2
    go_ret
    exact ⟨rfl, rfl⟩
theorem kernel_un (v : Value) (w : World) (h : Unmade w v) : Calls Try.prog 29 #[v] w fun e w' => e = .returned (.int .i64 7) ∧ w = w' := by
  have H := Lib.hid h; clear h
  go_enter Try.func29, Try.ntmps29
  go_wp2_with (go_at_call 30; refine (none_un _ _ H.out).mono ?_; rintro e w' ⟨rfl, rfl⟩)
  go_ret
  exact ⟨rfl, rfl⟩
theorem read_un (v : Value) (n c : Int) (w : World) (h : Unmade w v) : Calls Try.prog 13 #[v, .int .i64 n, .int .i64 c] w fun e w' => e = .returned (.tuple #[.int .u32 0, .int .i64 7]) ∧ w = w' := by
  have H := Lib.hid h; clear h
  go_enter Try.func13, Try.ntmps13
  go_wp2_with (go_at_call 29; refine (kernel_un _ _ H.out).mono ?_; rintro e w' ⟨rfl, rfl⟩)
  go_ret2
  exact ⟨rfl, rfl⟩
theorem write_un (v : Value) (n x : Int) (w : World) (h : Unmade w v) : Calls Try.prog 9 #[v, .int .i64 n, .int .u32 x] w fun e w' => e = .returned (.int .i64 7) ∧ w = w' := by
  have H := Lib.hid h; clear h
  go_enter Try.func9, Try.ntmps9
  go_wp2_with (go_at_call 29; refine (kernel_un _ _ H.out).mono ?_; rintro e w' ⟨rfl, rfl⟩)
  go_ret
  exact ⟨rfl, rfl⟩
theorem enter_un (v : Value) (x y z : Int) (w : World) (h : Unmade w v) : Calls Try.prog 12 #[v, .int .u32 x, .int .u32 y, .int .u32 z] w fun e w' => e = .returned (.tuple #[.int .u32 0, .int .i64 7]) ∧ w = w' := by
  have H := Lib.hid h; clear h
  go_enter Try.func12, Try.ntmps12
  go_wp2_with (go_at_call 30; refine (none_un _ _ H.out).mono ?_; rintro e w' ⟨rfl, rfl⟩)
  go_ret2
  exact ⟨rfl, rfl⟩
theorem leave_un (v : Value) (w : World) (h : Unmade w v) : Calls Try.prog 14 #[v] w fun e w' => e = .returned (.tuple #[.int .u32 0, .int .i64 7]) ∧ w = w' := by
  have H := Lib.hid h; clear h
  go_enter Try.func14, Try.ntmps14
  go_wp2_with (go_at_call 30; refine (none_un _ _ H.out).mono ?_; rintro e w' ⟨rfl, rfl⟩)
  go_ret2
  exact ⟨rfl, rfl⟩
theorem reset_un (v : Value) (w : World) (h : Unmade w v) : Calls Try.prog 17 #[v] w fun e w' => e = .returned (.int .i64 7) ∧ w = w' := by
  have H := Lib.hid h; clear h
  go_enter Try.func17, Try.ntmps17
  go_wp2_with (go_at_call 30; refine (none_un _ _ H.out).mono ?_; rintro e w' ⟨rfl, rfl⟩)
  go_ret
  exact ⟨rfl, rfl⟩
theorem handles_un (v : Value) (w : World) (h : Unmade w v) : Calls Try.prog 18 #[v] w fun e w' => e = .returned (.bool false) ∧ w = w' := by
  have H := Lib.hid h; clear h
  go_enter Try.func18, Try.ntmps18
  go_wp2_with (go_at_call 30; refine (none_un _ _ H.out).mono ?_; rintro e w' ⟨rfl, rfl⟩)
  go_ret
  exact ⟨rfl, rfl⟩
theorem open_un (v : Value) (w : World) (h : Unmade w v) : Calls Try.prog 11 #[v] w fun e w' => e = .returned (.bool false) ∧ w = w' := by
  have H := Lib.hid h; clear h
  go_enter Try.func11, Try.ntmps11
  go_wp2_with (go_at_call 18; refine (handles_un _ _ H.out).mono ?_; rintro e w' ⟨rfl, rfl⟩)
  go_ret
  exact ⟨rfl, rfl⟩
theorem info_arr : (Try.prog.info? 37).map (·.size) = some 7 := by kernel_rfl
theorem all_un (v : Value) (w : World) (h : Unmade w v) : Calls Try.prog 16 #[v] w fun e w' => e = .returned (.agg ([0, 0, 0, 0, 0, 0, 0].map (Value.int .u32)).toArray) ∧ Below w.heap.size w w' := by
  have hb : Below w.heap.size w (w.alloc (.cells ([0, 0, 0, 0, 0, 0, 0].map (Value.int .u32)).toArray 37)) := (Below.refl _ _).alloc (Nat.le_refl _) _
  have H := Lib.hid (h.below rfl hb)
  clear h
  go_enter Try.func16, Try.ntmps16
  go_wp2_with (go_at_call 30; refine (none_un _ _ H.out).mono ?_; rintro e w' ⟨rfl, rfl⟩)
  refine bodyPost_ret (v := .agg ([0, 0, 0, 0, 0, 0, 0].map (Value.int .u32)).toArray) ?_ rfl ⟨rfl, hb⟩
  exact results_cell_row rfl _ _ w.heap.size _ _ (0, 0) _ rfl (new_block w _ _ rfl) Try.underlying37 rfl (by rw [info_arr]; rfl)
theorem mode_un (v : Value) (w : World) (h : Unmade w v) : Calls Try.prog 10 #[v] w fun e w' => e = .returned (.agg #[.bool false, .int .i64 0, .bool false]) ∧ Below w.heap.size w w' := by
  have hb : Below w.heap.size w (w.alloc (.cells #[.bool false, .int .i64 0, .bool false] 29)) := (Below.refl _ _).alloc (Nat.le_refl _) _
  have H := Lib.hid (h.below rfl hb)
  clear h
  go_enter Try.func10, Try.ntmps10
  go_wp2_with (go_at_call 30; refine (none_un _ _ H.out).mono ?_; rintro e w' ⟨rfl, rfl⟩)
  have hk : (w.alloc (.cells #[.bool false, .int .i64 0, .bool false] 29)).heap[w.heap.size]? = some (.cells #[.bool false, .int .i64 0, .bool false] 29 (0, 0)) := new_block w _ _ rfl
  have a0 := cell_at hk 0 _ rfl; have a1 := cell_at hk 1 _ rfl; have a2 := cell_at hk 2 _ rfl
  refine bodyPost_ret (v := .agg #[.bool false, .int .i64 0, .bool false]) ?_ rfl ⟨rfl, hb⟩
  simp [results, Try.results10, go_sem, a0, a1, a2]
def u0 : Array Value := #[.int .u32 0, .int .u32 0, .int .u32 0, .int .u32 0, .int .u32 0, .int .u32 0, .int .u32 0, .int .i64 0, .bool false]
theorem zero_walk (n v : Int) (w : World) : Calls Try.prog 6 #[.int .i64 n, .int .u32 v] w fun e w' => e = .returned (.bool true) ∧ Below w.heap.size w w' := by
  obtain ⟨W, hW⟩ : ∃ W, W = w.alloc (.cells u0 43) := ⟨_, rfl⟩
  have HN : ∀ w, Hid (Unmade w (.pointer none)) := fun w => .inl rfl
  have HU : Hid (Unmade W (.pointer (some ⟨w.heap.size, 0, none⟩))) := by rw [Hid, hW]; exact .inr ⟨_, rfl, cell_at (new_block w _ _ rfl) 8 _ rfl⟩
  have HB : Hid (Below w.heap.size w W) := by rw [Hid, hW]; exact (Below.refl _ _).alloc (Nat.le_refl _) _
  go_enter Try.func6, Try.ntmps6
  go_wp2_with fail
  change Calls _ _ _ (w.alloc (.cells u0 43)) _
  rw [← hW]
  clear hW
  refine (read_un _ _ _ _ (HN _).out).mono ?_; rintro e w' ⟨rfl, rfl⟩
  go_wp2_with (go_at_call 12; refine (enter_un _ _ _ _ _ HU.out).mono ?_; rintro e w' ⟨rfl, rfl⟩)
  refine (leave_un _ _ (HN _).out).mono ?_; rintro e w' ⟨rfl, rfl⟩
  go_wp2_with fail
  refine (write_un _ _ _ _ (HN _).out).mono ?_; rintro e w' ⟨rfl, rfl⟩
  go_wp2_with fail
  refine (write_un _ _ _ _ HU.out).mono ?_; rintro e w' ⟨rfl, rfl⟩
  go_wp2_with fail
  refine (reset_un _ _ HU.out).mono ?_; rintro e w' ⟨rfl, rfl⟩
  go_wp2_with fail
  refine (mode_un _ _ (HN _).out).mono ?_; rintro e w1 ⟨rfl, hb1⟩
  have HU1 : Hid (Unmade w1 (.pointer (some ⟨w.heap.size, 0, none⟩))) := HU.out.below rfl hb1
  have HB1 : Hid (Below w.heap.size w w1) := HB.out.trans (hb1.mono HB.out.size)
  clear hb1
  go_wp2_with fail
  refine (open_un _ _ HU1.out).mono ?_; rintro e w' ⟨rfl, rfl⟩
  go_wp2_with fail
  refine (handles_un _ _ (HN _).out).mono ?_; rintro e w' ⟨rfl, rfl⟩
  go_wp2_with fail
  refine (all_un _ _ HU1.out).mono ?_; rintro e w2 ⟨rfl, hb2⟩
  have HB2 : Hid (Below w.heap.size w w2) := HB1.out.trans (hb2.mono HB1.out.size)
  clear hb2
  have hql : Sem.run Try.prog (Op.equalIn 10000 37 (.agg ([0, 0, 0, 0, 0, 0, 0].map (Value.int .u32)).toArray) (.agg ([0, 0, 0, 0, 0, 0, 0].map (Value.int .u32)).toArray)) w2 = .ok true w2 := by kernel_rfl
  simp only [List.map_cons, List.map_nil] at hql
  go_wp2_with fail
  go_ret
  exact ⟨rfl, HB2.out⟩
end Go.Proofs.Ytbalikmfbbmmjaa
