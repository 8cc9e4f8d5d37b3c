/- The law GateZero. -/
import Derived.Test.YtnhapfoebiniiaaObj
import Derived.Test.YtnhapfoebiniiaaRows
namespace Go.Proofs.Ytnhapfoebiniiaa
open Go.RowKit
set_option maxHeartbeats 400000
set_option maxRecDepth 100000

/-- Nobody made it: nil, or a zero object. -/
def Unmade (k : Nat) (w : World) (v : Value) : Prop := v = .pointer none ∨ ∃ b, v = .pointer (some ⟨b, 0, none⟩) ∧ w.cell? ⟨b, k, none⟩ = some (.bool false)
theorem Unmade.below {w w' : World} {k : Nat} {v : Value} (h : Unmade k w v) (hb : Below w.heap.size w w') : Unmade k w' v := by
  rcases h with h | ⟨b, h, hc⟩
  · exact .inl h
  · exact .inr ⟨b, h, (hb.cell (p := ⟨b, k, none⟩) (World.block_lt_of_cell? w ⟨b, k, none⟩ hc)).trans hc⟩
theorem gnone_un (v : Value) (w : World) (h : Unmade 7 w v) : Calls Try.prog 26 #[v] w fun e w' => e = .returned (.bool true) ∧ w = w' := by
  rcases h with rfl | ⟨b, rfl, hc⟩
  · go_enter Try.func26, Try.ntmps26
    go_wp2
    go_ret
    exact ⟨rfl, rfl⟩
  · go_enter Try.func26, Try.ntmps26
    go_wp2
    go_ret
    exact ⟨rfl, rfl⟩
theorem bnone_un (v : Value) (w : World) (h : Unmade 1 w v) : Calls Try.prog 33 #[v] w fun e w' => e = .returned (.bool true) ∧ w = w' := by
  rcases h with rfl | ⟨b, rfl, hc⟩
  · go_enter Try.func33, Try.ntmps33
    go_wp2
    go_ret
    exact ⟨rfl, rfl⟩
  · go_enter Try.func33, Try.ntmps33
    go_wp2
    go_ret
    exact ⟨rfl, rfl⟩
theorem release_un (v : Value) (i j : Int) (s : Value) (w : World) (h : Unmade 7 w v) : Calls Try.prog 14 #[v, .int .i64 i, .int .i64 j, s] w fun e w' => e = .returned (.int .i64 7) ∧ w = w' := by
  have H := Lib.hid h; clear h
  go_enter Try.func14, Try.ntmps14
  go_wp2_with (go_at_call 26; refine (gnone_un _ _ H.out).mono ?_; rintro e w' ⟨rfl, rfl⟩)
  go_ret
  exact ⟨rfl, rfl⟩
theorem turn_un (v : Value)  (w : World) (h : Unmade 7 w v) : Calls Try.prog 12 #[v] w fun e w' => e = .returned (.slice none 0 0) ∧ w = w' := by
  have H := Lib.hid h; clear h
  go_enter Try.func12, Try.ntmps12
  go_wp2_with (go_at_call 26; refine (gnone_un _ _ H.out).mono ?_; rintro e w' ⟨rfl, rfl⟩)
  go_ret
  exact ⟨rfl, rfl⟩
theorem log_un (v : Value)  (w : World) (h : Unmade 7 w v) : Calls Try.prog 16 #[v] w fun e w' => e = .returned (.slice none 0 0) ∧ w = w' := by
  have H := Lib.hid h; clear h
  go_enter Try.func16, Try.ntmps16
  go_wp2_with (go_at_call 26; refine (gnone_un _ _ H.out).mono ?_; rintro e w' ⟨rfl, rfl⟩)
  go_ret
  exact ⟨rfl, rfl⟩
theorem used_un (v : Value)  (w : World) (h : Unmade 7 w v) : Calls Try.prog 17 #[v] w fun e w' => e = .returned (.int .i64 0) ∧ w = w' := by
  have H := Lib.hid h; clear h
  go_enter Try.func17, Try.ntmps17
  go_wp2_with (go_at_call 26; refine (gnone_un _ _ H.out).mono ?_; rintro e w' ⟨rfl, rfl⟩)
  go_ret
  exact ⟨rfl, rfl⟩
theorem frame_un (v : Value)  (w : World) (h : Unmade 7 w v) : Calls Try.prog 19 #[v] w fun e w' => e = .returned (.int .i64 0) ∧ w = w' := by
  have H := Lib.hid h; clear h
  go_enter Try.func19, Try.ntmps19
  go_wp2_with (go_at_call 26; refine (gnone_un _ _ H.out).mono ?_; rintro e w' ⟨rfl, rfl⟩)
  go_ret
  exact ⟨rfl, rfl⟩
theorem put_un (v : Value) (s : Value) (w : World) (h : Unmade 1 w v) : Calls Try.prog 21 #[v, s] w fun e w' => e = .returned (.int .i64 7) ∧ w = w' := by
  have H := Lib.hid h; clear h
  go_enter Try.func21, Try.ntmps21
  go_wp2_with (go_at_call 33; refine (bnone_un _ _ H.out).mono ?_; rintro e w' ⟨rfl, rfl⟩)
  go_ret
  exact ⟨rfl, rfl⟩
theorem take_un (v : Value)  (w : World) (h : Unmade 1 w v) : Calls Try.prog 24 #[v] w fun e w' => e = .returned (.tuple #[.string ⟨#[]⟩, .bool false]) ∧ w = w' := by
  have H := Lib.hid h; clear h
  go_enter Try.func24, Try.ntmps24
  go_wp2_with (go_at_call 33; refine (bnone_un _ _ H.out).mono ?_; rintro e w' ⟨rfl, rfl⟩)
  go_ret2
  exact ⟨rfl, rfl⟩
theorem len_un (v : Value)  (w : World) (h : Unmade 1 w v) : Calls Try.prog 23 #[v] w fun e w' => e = .returned (.int .i64 0) ∧ w = w' := by
  have H := Lib.hid h; clear h
  go_enter Try.func23, Try.ntmps23
  go_wp2_with (go_at_call 33; refine (bnone_un _ _ H.out).mono ?_; rintro e w' ⟨rfl, rfl⟩)
  go_ret
  exact ⟨rfl, rfl⟩
def g0 : Array Value := #[.slice none 0 0, .int .i64 0, .int .i64 0, .int .i64 0, .int .i64 0, .int .i64 0, .int .i64 0, .bool false]
def b0 : Array Value := #[.slice none 0 0, .bool false]
theorem zero_walk (i j : Int) (s : Value) (w : World) : Calls Try.prog 7 #[.int .i64 i, .int .i64 j, s] w fun e w' => e = .returned (.bool true) ∧ Below w.heap.size w w' := by
  obtain ⟨W, hW⟩ : ∃ W, W = (w.alloc (.cells g0 60)).alloc (.cells b0 62) := ⟨_, rfl⟩
  have hs1 : (w.alloc (.cells g0 60)).heap.size = w.heap.size + 1 := by simp
  have HN : Hid (∀ k, Unmade k W (.pointer none)) := fun k => .inl rfl
  have HG : Hid (Unmade 7 W (.pointer (some ⟨w.heap.size, 0, none⟩))) := by
    rw [Hid, hW]
    refine Unmade.below ?_ ((Below.refl _ _).alloc (Nat.le_refl _) _)
    exact .inr ⟨_, rfl, cell_at (new_block w _ _ rfl) 7 _ rfl⟩
  have HX : Hid (Unmade 1 W (.pointer (some ⟨w.heap.size + 1, 0, none⟩))) := by rw [Hid, hW]; exact .inr ⟨_, rfl, cell_at (new_block _ _ _ hs1) 1 _ rfl⟩
  have HB : Hid (Below w.heap.size w W) := by rw [Hid, hW]; exact ((Below.refl _ _).alloc (Nat.le_refl _) _).alloc (by simp) _
  clear hs1
  go_enter Try.func7, Try.ntmps7
  go_wp2_with fail
  change Calls _ _ _ ((w.alloc (.cells g0 60)).alloc (.cells b0 62)) _
  rw [← hW]
  clear hW
  go_wp2_with (first | (go_at_call 24; refine (take_un _ _ (by first | exact HX.out | exact HN.out _)).mono ?_; rintro e w' ⟨rfl, rfl⟩) | (go_at_call 14; refine (release_un _ _ _ _ _ (by first | exact HG.out | exact HN.out _)).mono ?_; rintro e w' ⟨rfl, rfl⟩) | (go_at_call 12; refine (turn_un _ _ (by first | exact HG.out | exact HN.out _)).mono ?_; rintro e w' ⟨rfl, rfl⟩) | (go_at_call 16; refine (log_un _ _ (by first | exact HG.out | exact HN.out _)).mono ?_; rintro e w' ⟨rfl, rfl⟩) | (go_at_call 17; refine (used_un _ _ (by first | exact HG.out | exact HN.out _)).mono ?_; rintro e w' ⟨rfl, rfl⟩) | (go_at_call 19; refine (frame_un _ _ (by first | exact HG.out | exact HN.out _)).mono ?_; rintro e w' ⟨rfl, rfl⟩) | (go_at_call 21; refine (put_un _ _ _ (by first | exact HX.out | exact HN.out _)).mono ?_; rintro e w' ⟨rfl, rfl⟩) | (go_at_call 23; refine (len_un _ _ (by first | exact HX.out | exact HN.out _)).mono ?_; rintro e w' ⟨rfl, rfl⟩))
  go_ret
  exact ⟨rfl, HB.out⟩
end Go.Proofs.Ytnhapfoebiniiaa
