/- The law PortsZero. -/
import Derived.Test.YtpccllgbccccnaaMem
import Derived.Test.YtpccllgbccccnaaRows
namespace Go.Proofs.Ytpccllgbccccnaa
open Go.RowKit
set_option maxHeartbeats 400000
set_option maxRecDepth 100000

/-- Nobody made it: nil, or a zero object. -/
def Unmade (w : World) (v : Value) : Prop := v = .pointer none ∨ ∃ b, v = .pointer (some ⟨b, 0, none⟩) ∧ w.cell? ⟨b, 0, none⟩ = some (.slice none 0 0) ∧ w.cell? ⟨b, 1, none⟩ = some (.bool false)
theorem at_un (v : Value) (i : Int) (w : World) (h : Unmade w v) : Calls Try.prog 23 #[v, .int .i64 i] w fun e w' => e = .returned (.pointer none) ∧ w = w' := by
  rcases h with rfl | ⟨b, rfl, hc, hd⟩
  · go_enter Try.func23, Try.ntmps23
    go_wp2
    go_ret
    exact ⟨rfl, rfl⟩
  · by_cases hi : i < 0
    · go_enter Try.func23, Try.ntmps23
      go_wp2
      go_ret
      exact ⟨rfl, rfl⟩
    · go_enter Try.func23, Try.ntmps23
      go_wp2
      go_ret
      exact ⟨rfl, rfl⟩
theorem inbox_un (v : Value) (i : Int) (w : World) (h : Unmade w v) : Calls Try.prog 25 #[v, .int .i64 i] w fun e w' => e = .returned (.pointer none) ∧ w = w' := by
  have H := Lib.hid h; clear h
  go_enter Try.func25, Try.ntmps25
  go_wp2_with (go_at_call 23; refine (at_un _ _ _ H.out).mono ?_; rintro e w' ⟨rfl, rfl⟩)
  go_ret
  exact ⟨rfl, rfl⟩
theorem send_un (v s : Value) (i j : Int) (w : World) (h : Unmade w v) : Calls Try.prog 7 #[v, .int .i64 i, .int .i64 j, s] w fun e w' => e = .returned (.tuple #[]) ∧ w = w' := by
  have H := Lib.hid h; clear h
  go_enter Try.func7, Try.ntmps7
  go_wp2_with (go_at_call 23; refine (at_un _ _ _ H.out).mono ?_; rintro e w' ⟨rfl, rfl⟩)
  exact bodyPost_ret (v := .tuple #[]) (by first | exact results_none .. | simp [results, Try.results7, go_sem]) rfl ⟨rfl, rfl⟩
theorem arrive_un (v s : Value) (j : Int) (w : World) (h : Unmade w v) : Calls Try.prog 9 #[v, .int .i64 j, s] w fun e w' => e = .returned (.int .i64 7) ∧ w = w' := by
  rcases h with rfl | ⟨b, rfl, hc, hd⟩
  · go_enter Try.func9, Try.ntmps9
    go_wp2
    go_ret
    exact ⟨rfl, rfl⟩
  · go_enter Try.func9, Try.ntmps9
    go_wp2
    go_ret
    exact ⟨rfl, rfl⟩
theorem take_un (v : Value) (i : Int) (w : World) (h : Unmade w v) : Calls Try.prog 8 #[v, .int .i64 i] w fun e w' => e = .returned (.tuple #[.string ⟨#[]⟩, .bool false]) ∧ w = w' := by
  have H := Lib.hid h; clear h
  go_enter Try.func8, Try.ntmps8
  go_wp2_with (go_at_call 25; refine (inbox_un _ _ _ H.out).mono ?_; rintro e w' ⟨rfl, rfl⟩)
  go_ret2
  exact ⟨rfl, rfl⟩
theorem waits_un (v : Value) (i : Int) (w : World) (h : Unmade w v) : Calls Try.prog 10 #[v, .int .i64 i] w fun e w' => e = .returned (.int .i64 0) ∧ w = w' := by
  have H := Lib.hid h; clear h
  go_enter Try.func10, Try.ntmps10
  go_wp2_with (go_at_call 25; refine (inbox_un _ _ _ H.out).mono ?_; rintro e w' ⟨rfl, rfl⟩)
  go_ret
  exact ⟨rfl, rfl⟩
theorem out_un (v : Value) (i : Int) (w : World) (h : Unmade w v) : Calls Try.prog 11 #[v, .int .i64 i] w fun e w' => e = .returned (.slice none 0 0) ∧ w = w' := by
  have H := Lib.hid h; clear h
  go_enter Try.func11, Try.ntmps11
  go_wp2_with (go_at_call 23; refine (at_un _ _ _ H.out).mono ?_; rintro e w' ⟨rfl, rfl⟩)
  go_ret
  exact ⟨rfl, rfl⟩
theorem len_un (v : Value) (w : World) (h : Unmade w v) : Calls Try.prog 12 #[v] w fun e w' => e = .returned (.int .i64 0) ∧ w = w' := by
  rcases h with rfl | ⟨b, rfl, hc, hd⟩
  · go_enter Try.func12, Try.ntmps12
    go_wp2
    go_ret
    exact ⟨rfl, rfl⟩
  · go_enter Try.func12, Try.ntmps12
    go_wp2
    go_ret
    exact ⟨rfl, rfl⟩
def u0 : Array Value := #[.slice none 0 0, .bool false]
theorem zero_walk (i j : Int) (s : Value) (w : World) : Calls Try.prog 3 #[.int .i64 i, .int .i64 j, s] w fun e w' => e = .returned (.bool true) ∧ Below w.heap.size w w' := by
  obtain ⟨W, hW⟩ : ∃ W, W = w.alloc (.cells u0 25) := ⟨_, rfl⟩
  have HN : Hid (Unmade W (.pointer none)) := .inl rfl
  have HU : Hid (Unmade W (.pointer (some ⟨w.heap.size, 0, none⟩))) := by rw [Hid, hW]; exact .inr ⟨_, rfl, cell_at (new_block w _ _ rfl) 0 _ rfl, cell_at (new_block w _ _ rfl) 1 _ rfl⟩
  have HB : Hid (Below w.heap.size w W) := by rw [Hid, hW]; exact (Below.refl _ _).alloc (Nat.le_refl _) _
  go_enter Try.func3, Try.ntmps3
  go_wp2_with fail
  change Calls _ _ _ (w.alloc (.cells u0 25)) _
  rw [← hW]
  clear hW
  refine (send_un _ _ _ _ _ HN.out).mono ?_; rintro e w' ⟨rfl, rfl⟩
  go_wp2_with fail
  refine (send_un _ _ _ _ _ HU.out).mono ?_; rintro e w' ⟨rfl, rfl⟩
  go_wp2_with fail
  refine (take_un _ _ _ HN.out).mono ?_; rintro e w' ⟨rfl, rfl⟩
  go_wp2_with fail
  refine (take_un _ _ _ HU.out).mono ?_; rintro e w' ⟨rfl, rfl⟩
  go_wp2_with fail
  refine (arrive_un _ _ _ _ HN.out).mono ?_; rintro e w' ⟨rfl, rfl⟩
  go_wp2_with fail
  refine (arrive_un _ _ _ _ HU.out).mono ?_; rintro e w' ⟨rfl, rfl⟩
  go_wp2_with fail
  refine (waits_un _ _ _ HN.out).mono ?_; rintro e w' ⟨rfl, rfl⟩
  go_wp2_with fail
  refine (waits_un _ _ _ HU.out).mono ?_; rintro e w' ⟨rfl, rfl⟩
  go_wp2_with fail
  refine (out_un _ _ _ HN.out).mono ?_; rintro e w' ⟨rfl, rfl⟩
  go_wp2_with fail
  refine (out_un _ _ _ HU.out).mono ?_; rintro e w' ⟨rfl, rfl⟩
  go_wp2_with fail
  refine (len_un _ _ HN.out).mono ?_; rintro e w' ⟨rfl, rfl⟩
  go_wp2_with fail
  refine (len_un _ _ HU.out).mono ?_; rintro e w' ⟨rfl, rfl⟩
  go_wp2_with fail
  go_ret
  exact ⟨rfl, HB.out⟩
end Go.Proofs.Ytpccllgbccccnaa
