/- The law PartsZero. -/
import Derived.Test.YthmbflofcceifaaMem
import Derived.Test.YthmbflofcceifaaRows
namespace Go.Proofs.Ythmbflofcceifaa
open Go.RowKit
set_option maxHeartbeats 400000
set_option maxRecDepth 100000

/-- Nobody made it: nil, or a zero object. -/
def Unmade (w : World) (v : Value) : Prop := v = .pointer none ∨ ∃ b, v = .pointer (some ⟨b, 0, none⟩) ∧ w.cell? ⟨b, 2, none⟩ = some (.bool false)
theorem Unmade.below {w w' : World} {v : Value} (h : Unmade w v) (hb : Below w.heap.size w w') : Unmade w' v := by
  rcases h with h | ⟨b, h, hc⟩
  · exact .inl h
  · exact .inr ⟨b, h, (hb.cell (p := ⟨b, 2, none⟩) (World.block_lt_of_cell? w ⟨b, 2, none⟩ hc)).trans hc⟩
theorem none_un (v : Value) (w : World) (h : Unmade w v) : Calls Try.prog 23 #[v] w fun e w' => e = .returned (.bool true) ∧ w = w' := by
  rcases h with rfl | ⟨b, rfl, hc⟩
  · go_enter Try.func23, Try.ntmps23
    go_wp2
    go_ret
    exact ⟨rfl, rfl⟩
  · go_enter Try.func23, Try.ntmps23
    go_wp2
    go_ret
    exact ⟨rfl, rfl⟩
theorem who_un (v : Value) (i : Int) (w : World) (h : Unmade w v) : Calls Try.prog 12 #[v, .int .i64 i] w fun e w' => e = .returned (.tuple #[.int .i64 0, .bool false]) ∧ Below w.heap.size w w' := by
  have HB : Hid (Below w.heap.size w (((w.alloc (.cells #[.int .i64 i] 3)).alloc (.cells #[.int .i64 0] 3)).alloc (.cells #[.bool false] 4))) := (((Below.refl _ _).alloc (Nat.le_refl _) _).alloc (by simp) _).alloc (by simp; omega) _
  have HH : Hid (∀ n, Unmade ((((w.alloc (.cells #[.int .i64 i] 3)).alloc (.cells #[.int .i64 0] 3)).alloc (.cells #[.bool false] 4)).drewN n) v) := fun n => h.below (below_drewN HB.out n)
  clear h
  go_enter Try.func12, Try.ntmps12
  go_wp2_with fail
  go_quiet ((go_at_call 23; exact Calls.quiet_of_same ((none_un _ _ (HH.out _)).mono fun _ _ h => ⟨h.1, h.2.symm⟩)))
  go_wp2
  refine bodyPost_ret (v := .tuple #[.int .i64 0, .bool false]) (by simp [results, Try.results12, go_sem]) rfl ⟨rfl, ?_⟩
  exact ((below_drewN HB.out _).setCell (by simp) _).setCell (by simp; omega) _
theorem give_un (v : Value) (i j k : Int) (w : World) (h : Unmade w v) : Calls Try.prog 10 #[v, .int .i64 i, .int .i64 j, .int .i64 k] w fun e w' => e = .returned (.int .i64 7) ∧ w = w' := by
  have H := Lib.hid h; clear h
  go_enter Try.func10, Try.ntmps10
  go_wp2_with (go_at_call 23; refine (none_un _ _ H.out).mono ?_; rintro e w' ⟨rfl, rfl⟩)
  go_ret
  exact ⟨rfl, rfl⟩
theorem free_un (v : Value) (w : World) (h : Unmade w v) : Calls Try.prog 9 #[v] w fun e w' => e = .returned (.int .i64 0) ∧ w = w' := by
  have H := Lib.hid h; clear h
  go_enter Try.func9, Try.ntmps9
  go_wp2_with (go_at_call 23; refine (none_un _ _ H.out).mono ?_; rintro e w' ⟨rfl, rfl⟩)
  go_ret
  exact ⟨rfl, rfl⟩
theorem len_un (v : Value) (w : World) (h : Unmade w v) : Calls Try.prog 14 #[v] w fun e w' => e = .returned (.int .i64 0) ∧ w = w' := by
  have H := Lib.hid h; clear h
  go_enter Try.func14, Try.ntmps14
  go_wp2_with (go_at_call 23; refine (none_un _ _ H.out).mono ?_; rintro e w' ⟨rfl, rfl⟩)
  go_ret
  exact ⟨rfl, rfl⟩
theorem of_un (v : Value) (i : Int) (w : World) (h : Unmade w v) : Calls Try.prog 15 #[v, .int .i64 i] w fun e w' => e = .returned (.slice none 0 0) ∧ Below w.heap.size w w' := by
  have hb : Below w.heap.size w (w.alloc (.cells #[.int .i64 i] 3)) := (Below.refl _ _).alloc (Nat.le_refl _) _
  have H := Lib.hid (h.below hb); clear h
  go_enter Try.func15, Try.ntmps15
  go_wp2_with (go_at_call 23; refine (none_un _ _ H.out).mono ?_; rintro e w' ⟨rfl, rfl⟩)
  go_ret
  exact ⟨rfl, hb⟩
theorem runs_un (v : Value) (w : World) (h : Unmade w v) : Calls Try.prog 8 #[v] w fun e w' => e = .returned (.slice none 0 0) ∧ w = w' := by
  have H := Lib.hid h; clear h
  go_enter Try.func8, Try.ntmps8
  go_wp2_with (go_at_call 23; refine (none_un _ _ H.out).mono ?_; rintro e w' ⟨rfl, rfl⟩)
  go_ret
  exact ⟨rfl, rfl⟩
def u0 : Array Value := #[.slice none 0 0, .int .i64 0, .bool false]
theorem zero_walk (i j k : Int) (w : World) : Calls Try.prog 5 #[.int .i64 i, .int .i64 j, .int .i64 k] w fun e w' => e = .returned (.bool true) ∧ Below w.heap.size w w' := by
  obtain ⟨W, hW⟩ : ∃ W, W = w.alloc (.cells u0 39) := ⟨_, rfl⟩
  have HN : Hid (Unmade W (.pointer none)) := .inl rfl
  have HU : Hid (Unmade W (.pointer (some ⟨w.heap.size, 0, none⟩))) := by rw [Hid, hW]; exact .inr ⟨_, rfl, cell_at (new_block w _ _ rfl) 2 _ rfl⟩
  have HB : Hid (Below w.heap.size w W) := by rw [Hid, hW]; exact (Below.refl _ _).alloc (Nat.le_refl _) _
  go_enter Try.func5, Try.ntmps5
  go_wp2_with fail
  change Calls _ _ _ (w.alloc (.cells u0 39)) _
  rw [← hW]
  clear hW
  refine (who_un _ _ _ HN.out).mono ?_; rintro e w1 ⟨rfl, hb1⟩
  have HU1 := Lib.hid (HU.out.below hb1)
  have HB1 := Lib.hid (HB.out.trans (hb1.mono HB.out.size))
  clear hb1
  go_wp2_with fail
  refine (who_un _ _ _ HU1.out).mono ?_; rintro e w2 ⟨rfl, hb2⟩
  have HU2 := Lib.hid (HU1.out.below hb2)
  have HB2 := Lib.hid (HB1.out.trans (hb2.mono HB1.out.size))
  have HN2 : Hid (Unmade w2 (.pointer none)) := .inl rfl
  clear hb2
  go_wp2_with fail
  refine (give_un _ _ _ _ _ HN2.out).mono ?_; rintro e w' ⟨rfl, rfl⟩
  go_wp2_with fail
  refine (give_un _ _ _ _ _ HU2.out).mono ?_; rintro e w' ⟨rfl, rfl⟩
  go_wp2_with fail
  refine (free_un _ _ HN2.out).mono ?_; rintro e w' ⟨rfl, rfl⟩
  go_wp2_with fail
  refine (len_un _ _ HU2.out).mono ?_; rintro e w' ⟨rfl, rfl⟩
  go_wp2_with fail
  refine (of_un _ _ _ HN2.out).mono ?_; rintro e w3 ⟨rfl, hb3⟩
  have HU3 := Lib.hid (HU2.out.below hb3)
  have HB3 := Lib.hid (HB2.out.trans (hb3.mono HB2.out.size))
  clear hb3
  go_wp2_with fail
  refine (runs_un _ _ HU3.out).mono ?_; rintro e w' ⟨rfl, rfl⟩
  go_wp2_with fail
  go_ret
  exact ⟨rfl, HB3.out⟩
end Go.Proofs.Ythmbflofcceifaa
