/- The law DiskZero. -/
import Derived.Test.YtlafijnmoaenaaaMem
import Derived.Test.YtlafijnmoaenaaaRows
namespace Go.Proofs.Ytlafijnmoaenaaa
open Go.RowKit
set_option maxHeartbeats 400000
set_option maxRecDepth 100000

/-- Nobody made it: nil, or its map is nil. -/
def Unmade (w : World) (v : Value) : Prop := v = .pointer none ∨ ∃ b, v = .pointer (some ⟨b, 0, none⟩) ∧ w.cell? ⟨b, 2, none⟩ = some (.map none)
theorem none_un (v : Value) (w : World) (h : Unmade w v) : Calls Try.prog 23 #[v] w fun e w' => e = .returned (.bool true) ∧ w = w' := by
  rcases h with rfl | ⟨b, rfl, hc⟩
  · go_enter Try.func23, Try.ntmps23
    go_wp2
    go_ret
    exact ⟨rfl, rfl⟩
  · have hq : (binOp .eql 26 (.map none) (.map none)).run Try.prog w = .ok (.bool true) w := by kernel_rfl
    go_enter Try.func23, Try.ntmps23
    go_wp2
    go_ret
    exact ⟨rfl, rfl⟩
theorem label_un (v : Value) (at' : Int) (w : World) (h : Unmade w v) : Calls Try.prog 21 #[v, .int .i64 at'] w fun e w' => e = .returned (.tuple #[.int .i64 0, .int .i64 7]) ∧ w = w' := by
  have H := Lib.hid h; clear h
  go_enter Try.func21, Try.ntmps21
  go_wp2_with (go_at_call 23; refine (none_un _ _ H.out).mono ?_; rintro e w' ⟨rfl, rfl⟩)
  go_ret2
  exact ⟨rfl, rfl⟩
theorem read_un (v : Value) (who at' : Int) (w : World) (h : Unmade w v) : Calls Try.prog 7 #[v, .int .i64 who, .int .i64 at'] w fun e w' => e = .returned (.tuple #[.slice none 0 0, .int .i64 7]) ∧ w = w' := by
  have H := Lib.hid h; clear h
  go_enter Try.func7, Try.ntmps7
  go_wp2_with (go_at_call 21; refine (label_un _ _ _ H.out).mono ?_; rintro e w' ⟨rfl, rfl⟩)
  go_ret2
  exact ⟨rfl, rfl⟩
theorem range_un (v : Value) (at' : Int) (w : World) (h : Unmade w v) : Calls Try.prog 8 #[v, .int .i64 at'] w fun e w' => e = .returned (.tuple #[.int .i64 0, .bool false]) ∧ w = w' := by
  have H := Lib.hid h; clear h
  go_enter Try.func8, Try.ntmps8
  go_wp2_with (go_at_call 23; refine (none_un _ _ H.out).mono ?_; rintro e w' ⟨rfl, rfl⟩)
  go_ret2
  exact ⟨rfl, rfl⟩
theorem bytes_un (v : Value) (at' : Int) (w : World) (h : Unmade w v) : Calls Try.prog 9 #[v, .int .i64 at'] w fun e w' => e = .returned (.tuple #[.slice none 0 0, .bool false]) ∧ w = w' := by
  have H := Lib.hid h; clear h
  go_enter Try.func9, Try.ntmps9
  go_wp2_with (go_at_call 23; refine (none_un _ _ H.out).mono ?_; rintro e w' ⟨rfl, rfl⟩)
  go_ret2
  exact ⟨rfl, rfl⟩
theorem write_un (v b : Value) (who at' : Int) (w : World) (h : Unmade w v) : Calls Try.prog 10 #[v, .int .i64 who, .int .i64 at', b] w fun e w' => e = .returned (.int .i64 7) ∧ w = w' := by
  have H := Lib.hid h; clear h
  go_enter Try.func10, Try.ntmps10
  go_wp2_with (go_at_call 21; refine (label_un _ _ _ H.out).mono ?_; rintro e w' ⟨rfl, rfl⟩)
  go_ret
  exact ⟨rfl, rfl⟩
theorem fill_un (v s : Value) (at' : Int) (w : World) (h : Unmade w v) : Calls Try.prog 11 #[v, .int .i64 at', s] w fun e w' => e = .returned (.int .i64 7) ∧ w = w' := by
  have H := Lib.hid h; clear h
  go_enter Try.func11, Try.ntmps11
  go_wp2_with (go_at_call 21; refine (label_un _ _ _ H.out).mono ?_; rintro e w' ⟨rfl, rfl⟩)
  go_ret
  exact ⟨rfl, rfl⟩
def u0 : Array Value := #[.pointer none, .slice none 0 0, .map none]
theorem zero_walk (who at' : Int) (b : Value) (w : World) : Calls Try.prog 3 #[.int .i64 who, .int .i64 at', b] w fun e w' => e = .returned (.bool true) ∧ Below w.heap.size w w' := by
  obtain ⟨W, hW⟩ : ∃ W, W = w.alloc (.cells u0 28) := ⟨_, rfl⟩
  have HN : Hid (Unmade W (.pointer none)) := .inl rfl
  have HU : Hid (Unmade W (.pointer (some ⟨w.heap.size, 0, none⟩))) := by rw [Hid, hW]; exact .inr ⟨_, rfl, cell_at (new_block w _ _ rfl) 2 _ rfl⟩
  have HB : Hid (Below w.heap.size w W) := by rw [Hid, hW]; exact (Below.refl _ _).alloc (Nat.le_refl _) _
  go_enter Try.func3, Try.ntmps3
  go_wp2_with fail
  change Calls _ _ _ (w.alloc (.cells u0 28)) _
  rw [← hW]
  clear hW
  refine (read_un _ _ _ _ HN.out).mono ?_; rintro e w' ⟨rfl, rfl⟩
  go_wp2_with fail
  refine (read_un _ _ _ _ HU.out).mono ?_; rintro e w' ⟨rfl, rfl⟩
  go_wp2_with fail
  refine (range_un _ _ _ HN.out).mono ?_; rintro e w' ⟨rfl, rfl⟩
  go_wp2_with fail
  refine (bytes_un _ _ _ HU.out).mono ?_; rintro e w' ⟨rfl, rfl⟩
  go_wp2_with fail
  refine (write_un _ _ _ _ _ HN.out).mono ?_; rintro e w' ⟨rfl, rfl⟩
  go_wp2_with fail
  refine (write_un _ _ _ _ _ HU.out).mono ?_; rintro e w' ⟨rfl, rfl⟩
  go_wp2_with fail
  refine (fill_un _ _ _ _ HN.out).mono ?_; rintro e w' ⟨rfl, rfl⟩
  go_wp2_with fail
  refine (fill_un _ _ _ _ HU.out).mono ?_; rintro e w' ⟨rfl, rfl⟩
  go_wp2_with fail
  go_ret
  exact ⟨rfl, HB.out⟩
end Go.Proofs.Ytlafijnmoaenaaa
